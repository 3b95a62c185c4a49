/- This text proves general lemmas: how arguments that are flat structs, or slices of them, read; and the frame in which a law is proved from its walk. It has no conditions of its own. -/
import Derived.Test.YtacpjpkhmdcagaaGreatRows
import Derived.WalkKit
import Derived.ProofKit
import Derived.OpenShut
import Derived.Below
import Derived.Deep.Slices
import Derived.Deep.Fields
import Derived.ChangeOld
import Derived.Lib.Hide
namespace Go.Proofs.YtacpjpkhmdcagaaGreat
open Go.ChangeShapes Go.WideShapes Go.ChangeAt Go.RowKit Go.Deep
set_option linter.unusedVariables false

/-! ### flat types -/
abbrev Kd := Option IntKind

def kindsF (f : TypeId → Option (List Kd)) (P : Program) : List Field → Nat → Option (List Kd)
  | [], _ => some []
  | fd :: fs, n => match f fd.type with
    | some ks => if fd.offset = n ∧ P.cellsOf fd.type = ks.length then (kindsF f P fs (n + ks.length)).map (ks ++ ·) else none
    | none => none

def kinds (P : Program) : Nat → TypeId → Option (List Kd)
  | 0, _ => none
  | d + 1, t => match P.underlying t with
    | some .bool => some [none]
    | some (.int k) => some [some k]
    | some (.struct fs) => match kindsF (kinds P d) P fs.toList 0 with
      | some ks => if P.cellsOf t = ks.length then some ks else none
      | none => none
    | _ => none

def fit1 : Kd → Value → Prop
  | none, v => ∃ b, v = .bool b
  | some k, v => ∃ n, v = .int k n ∧ (Lit.int k n).wf = true

def fits : List Kd → List Value → Prop
  | [], vs => vs = []
  | k :: ks, vs => ∃ v vs', vs = v :: vs' ∧ fit1 k v ∧ fits ks vs'

theorem fits_length : ∀ (ks : List Kd) (vs : List Value), fits ks vs → vs.length = ks.length
  | [], vs, h => by simp [fits] at h; simp [h]
  | k :: ks, vs, h => by
    obtain ⟨v, vs', rfl, _, h⟩ := h
    simp [fits_length ks vs' h]

theorem fits_append : ∀ (ks ks' : List Kd) (vs vs' : List Value), fits ks vs → fits ks' vs' → fits (ks ++ ks') (vs ++ vs')
  | [], _, _, _, h, h' => by simp only [fits] at h; subst h; exact h'
  | k :: ks, _, _, _, h, h' => by
    obtain ⟨v, vs', rfl, h1, h2⟩ := h
    exact ⟨v, _, rfl, h1, fits_append ks _ _ _ h2 h'⟩

section
variable {H : Type} {enc : TypeId × Value → H} {P : Program} {w : World} {base : Nat} {spare : Nat → Bool} {held : Bool}

theorem kindsF_spec {d n : Nat} (ih : ∀ (fuel : Nat) (t : TypeId) (cs : List Value) (x : DataW H × List MemPlace) (ks : List Kd), DataW.trod enc P w base spare held fuel t cs = some x → kinds P d t = some ks → fits ks cs ∧ x.2 = []) :
    ∀ (fs : List Field) (m : Nat) (cs : List Value) (xs : List (DataW H × List MemPlace)) (ks : List Kd), kindsF (kinds P d) P fs m = some ks →
      (∀ (i : Nat) (f : Field), fs[i]? = some f → DataW.trod enc P w base spare held n f.type ((cs.drop f.offset).take (P.cellsOf f.type)) = xs[i]?) → xs.length = fs.length → cs.length = m + ks.length →
      fits ks (cs.drop m) ∧ xs.flatMap (·.2) = []
  | [], m, cs, xs, ks, hk, hf, hl, hc => by
    simp [kindsF] at hk
    subst hk
    simp at hl
    subst hl
    exact ⟨by simp [fits]; simp at hc; omega, rfl⟩
  | fd :: fs, m, cs, xs, ks, hk, hf, hl, hc => by
    unfold kindsF at hk
    split at hk
    · rename_i k1 hk1
      split at hk
      · rename_i hcond
        obtain ⟨ho, hce⟩ := hcond
        cases hr : kindsF (kinds P d) P fs (m + k1.length) with
        | none => rw [hr] at hk; simp at hk
        | some k2 =>
          rw [hr] at hk
          simp at hk
          subst hk
          match xs, hl with
          | y :: ys, hl =>
            have h0 := hf 0 fd rfl
            rw [ho, hce] at h0
            obtain ⟨hfit, hp⟩ := ih n fd.type _ y k1 h0 hk1
            simp at hc
            obtain ⟨h2, h3⟩ := kindsF_spec ih fs (m + k1.length) cs ys k2 hr (fun i f hi => hf (i + 1) f hi) (by simpa using hl) (by omega)
            refine ⟨?_, by simp [hp, h3]⟩
            have := fits_append _ _ _ _ hfit h2
            rwa [← List.drop_drop, List.take_append_drop] at this
      · cases hk
    · cases hk

theorem trod_flat : ∀ (d fuel : Nat) (t : TypeId) (cs : List Value) (x : DataW H × List MemPlace) (ks : List Kd), DataW.trod enc P w base spare held fuel t cs = some x → kinds P d t = some ks → fits ks cs ∧ x.2 = []
  | 0, _, _, _, _, _, _, hk => by simp [kinds] at hk
  | d + 1, fuel, t, cs, x, ks, h, hk => by
    unfold kinds at hk
    split at hk
    · rename_i hu
      obtain ⟨b, rfl, rfl⟩ := DataW.trod_bool hu h
      simp at hk
      subst hk
      exact ⟨⟨_, _, rfl, ⟨b, rfl⟩, rfl⟩, rfl⟩
    · rename_i k hu
      obtain ⟨n, rfl, rfl, hw⟩ := DataW.trod_int hu h
      simp at hk
      subst hk
      exact ⟨⟨_, _, rfl, ⟨n, rfl, hw⟩, rfl⟩, rfl⟩
    · rename_i fs hu
      split at hk
      · rename_i k1 hk1
        split at hk
        · rename_i hc
          simp at hk
          subst hk
          obtain ⟨xs, n, _, rfl, hcl, hxl, hf⟩ := DataW.trod_struct hu h
          have := kindsF_spec (n := n) (d := d) (fun fuel t cs x ks h hk => trod_flat d fuel t cs x ks h hk) fs.toList 0 cs xs k1 hk1 (fun i f hi => hf i f (by simpa using hi)) (by simpa using hxl) (by rw [hcl, hc]; omega)
          simpa using this
        · cases hk
      · cases hk
    · cases hk

/-- A parameter that is a flat struct, by value. -/
theorem open_flat {r : Reach} {b0 : Nat} {t : TypeId} {fs : Array Field} {ks : List Kd} {v : Value} {d : DataW H} {p : List MemPlace} (n : Nat) (hs : P.underlying t = some (.struct fs)) (hk : kinds P n t = some ks)
    (hv : Value.okWide P w r b0 t v) (h : DataW.Trod enc P w base spare held t v d p) : ∃ cs : List Value, v = .agg cs.toArray ∧ fits ks cs := by
  obtain ⟨cs, rfl, _⟩ := okWide_struct hs hv
  obtain ⟨fuel, hf⟩ := h
  exact ⟨cs.toList, by simp, (trod_flat n fuel t _ _ ks hf hk).1⟩

/-! ### slices of flat elements -/
/-- The rows 'l' lie, each of 'k' cells, from where 'A' leads. -/
def Rd (w : World) (k : Nat) (A : Option Addr) (l : List (List Value)) : Prop :=
  l ≠ [] → ∃ b off, A = some ⟨b, off, none⟩ ∧ ∀ i j u, (l.getD i [])[j]? = some u → w.cell? ⟨b, off + (i * k + j), none⟩ = some u

theorem cell_lt {w : World} {p : Addr} {u : Value} (h : w.cell? p = some u) : p.block < w.heap.size := by
  rcases Nat.lt_or_ge p.block w.heap.size with h1 | h1
  · exact h1
  · unfold World.cell? at h
    have : w.heap[p.block]? = none := Array.getElem?_eq_none h1
    simp [this] at h

theorem Rd.below {w w' : World} {k : Nat} {A : Option Addr} {l : List (List Value)} (h : Rd w k A l) (hb : Below w.heap.size w w') : Rd w' k A l := by
  intro hne
  obtain ⟨b, off, rfl, hc⟩ := h hne
  refine ⟨b, off, rfl, fun i j u hu => ?_⟩
  have := hc i j u hu
  rw [hb.cell (cell_lt this)]
  exact this

theorem addr_add (b off n : Nat) : (Addr.add ⟨b, off, none⟩ n) = ⟨b, off + n, none⟩ := by
  unfold Addr.add
  split <;> simp_all

/-- A parameter that is a slice of flat elements. -/
theorem open_rows {r : Reach} {b0 : Nat} {t e : TypeId} {ks : List Kd} {v : Value} {d : DataW H} {p : List MemPlace} (n : Nat) (hs : P.underlying t = some (.slice e)) (hk : kinds P n e = some ks) (hc : P.cellsOf e = ks.length) (hpos : 0 < ks.length)
    (hv : Value.okWide P w r b0 t v) (h : DataW.Trod enc P w base spare held t v d p) :
    ∃ (A : Option Addr) (len cap : Nat) (l : List (List Value)), v = .slice A len cap ∧ l.length = len ∧ len ≤ cap ∧ cap ≤ maxLen ∧ (∀ x ∈ l, fits ks x) ∧ Rd w ks.length A l := by
  obtain ⟨a0, len, cap, rfl⟩ := okWide_slice hs hv
  obtain ⟨fuel, hf⟩ := h
  rcases open_slice hs hf with ⟨hcs, _⟩ | ⟨a, len', cap', m, n', D, Pl, hcs, _, hl, hm, hmm, _, hi⟩
  · simp [Value.cells] at hcs
    obtain ⟨rfl, rfl, rfl⟩ := hcs
    exact ⟨none, 0, 0, [], rfl, rfl, Nat.le_refl _, Nat.zero_le _, by simp, fun h => absurd rfl h⟩
  · simp [Value.cells] at hcs
    obtain ⟨rfl, rfl, rfl⟩ := hcs
    have hlm : len ≤ m := by rw [hmm]; split <;> omega
    have hrow : ∀ i, i < len → ∃ cs', w.cells? base (a.add (i * ks.length)) ks.length = some cs' ∧ fits ks cs' := by
      intro i hil
      obtain ⟨cs', h1, h2⟩ := hi i (by omega)
      rw [hc] at h1
      exact ⟨cs', h1, (trod_flat n n' e cs' _ ks h2 hk).1⟩
    have hl2 : ∀ m, m ≤ len → ∃ l : List (List Value), l.length = m ∧ ∀ i, i < m → w.cells? base (a.add (i * ks.length)) ks.length = some (l.getD i []) ∧ fits ks (l.getD i []) := by
      intro m
      induction m with
      | zero => exact fun _ => ⟨[], rfl, fun i hi => by omega⟩
      | succ m ih =>
        intro hm'
        obtain ⟨l, hll, hlf⟩ := ih (by omega)
        obtain ⟨cs', h1, h2⟩ := hrow m (by omega)
        refine ⟨l ++ [cs'], by simp [hll], fun i hi' => ?_⟩
        rcases Nat.lt_or_ge i m with h3 | h3
        · have := hlf i h3
          simpa [List.getD_eq_getElem?_getD, List.getElem?_append_left (show i < l.length by omega)] using this
        · obtain rfl : i = m := by omega
          simpa [List.getD_eq_getElem?_getD, ← hll] using And.intro (hll ▸ h1) h2
    obtain ⟨l, hll, hlf⟩ := hl2 len (Nat.le_refl _)
    refine ⟨some a, len, cap, l, rfl, hll, hl, hm, ?_, ?_⟩
    · intro x hx
      obtain ⟨i, hi1, rfl⟩ := List.getElem_of_mem hx
      have := (hlf i (by omega)).2
      simpa [List.getD_eq_getElem?_getD, List.getElem?_eq_getElem hi1] using this
    · intro hne
      have hpl : 0 < len := by
        rcases Nat.eq_zero_or_pos len with h0 | h0
        · exact absurd (List.eq_nil_of_length_eq_zero (by omega)) hne
        · exact h0
      obtain ⟨b, off, spot⟩ := a
      have hsp : spot = none := by
        obtain ⟨h1, h2⟩ := hlf 0 hpl
        obtain ⟨_, hcl, hat⟩ := World.cells?_some h1
        have hat0 := hat 0 hpos
        cases hq : (l.getD 0 [])[0]? with
        | none => have := fits_length _ _ h2; rw [List.getElem?_eq_none_iff] at hq; omega
        | some u =>
          rw [hq] at hat0
          simpa [Addr.add] using World.cell?_spot hat0
      subst hsp
      refine ⟨b, off, rfl, fun i j u hu => ?_⟩
      have hil : i < len := by
        rcases Nat.lt_or_ge i len with h3 | h3
        · exact h3
        · simp [List.getD_eq_getElem?_getD, List.getElem?_eq_none (show l.length ≤ i by omega)] at hu
      obtain ⟨h1, h2⟩ := hlf i hil
      obtain ⟨_, hcl, hat⟩ := World.cells?_some h1
      have hjl : j < ks.length := by
        have := fits_length _ _ h2
        have := (List.getElem?_eq_some_iff.1 hu).1
        omega
      have := hat j hjl
      rw [hu, addr_add, addr_add] at this
      simpa [Nat.add_assoc] using this
end

/-! ### the frame of a law -/
section
variable {H : Type} {enc : TypeId × Value → H} {P : Program}

theorem trodAll_lt {w : World} {base : Nat} {spare : Nat → Bool} {held : Bool} : ∀ (ts : List TypeId) (vs : List Value) (ds : List (DataW H)) (ps : List MemPlace), DataW.TrodAll enc P w base spare held ts vs ds ps → ∀ x ∈ ps, x.block < w.heap.size
  | [], vs, ds, ps, h => by obtain ⟨rfl, rfl, rfl⟩ := trodAll_nil h; simp
  | t :: ts, vs, ds, ps, h => by
    obtain ⟨v, vs1, d, ds1, a, b, rfl, rfl, rfl, h1, h2⟩ := trodAll_cons h
    intro x hx
    rcases List.mem_append.1 hx with hx | hx
    · obtain ⟨m, hm⟩ := h1
      exact DataW.trod_lt m _ _ _ hm x hx
    · exact trodAll_lt ts vs1 ds1 b h2 x hx

theorem trodAll_below (hl : laidOutB P = true) {W W' : World} (hb : Below W.heap.size W W') : ∀ (ts : List TypeId) (vs : List Value) (ds : List (DataW H)) (ps : List MemPlace), (ts.all fun t => P.readableRec t && decide (t < P.types.size)) = true →
    (∀ x ∈ ps, x.block < W.heap.size) → DataW.TrodAll enc P W 0 (fun _ => true) true ts vs ds ps → DataW.TrodAll enc P W' 0 (fun b => decide (b < W.heap.size)) true ts vs ds ps
  | [], vs, ds, ps, _, _, h => by obtain ⟨rfl, rfl, rfl⟩ := trodAll_nil h; exact rfl
  | t :: ts, vs, ds, ps, hr, hlt, h => by
    obtain ⟨v, vs1, d, ds1, a, b, rfl, rfl, rfl, h1, h2⟩ := trodAll_cons h
    simp only [List.all_cons, Bool.and_eq_true, decide_eq_true_eq] at hr
    exact trodAll_cons_mk (Below.trod hl hr.1.1 hr.1.2 h1 hb (fun x hx => hlt x (List.mem_append_left _ hx))) (trodAll_below hl hb ts vs1 ds1 b hr.2 (fun x hx => hlt x (List.mem_append_right _ hx)) h2)

theorem trodAll_len {w : World} {base : Nat} {spare : Nat → Bool} {held : Bool} : ∀ (ts : List TypeId) (vs : List Value) (ds : List (DataW H)) (ps : List MemPlace), DataW.TrodAll enc P w base spare held ts vs ds ps → ds.length = ts.length
  | [], vs, ds, ps, h => by obtain ⟨rfl, rfl, rfl⟩ := trodAll_nil h; rfl
  | t :: ts, vs, ds, ps, h => by
    obtain ⟨v, vs1, d, ds1, a, b, rfl, rfl, rfl, h1, h2⟩ := trodAll_cons h
    simp [trodAll_len ts vs1 ds1 b h2]
end

/-- What a law's walk is told of its arguments. -/
def Args (C : Checked) (H : Type) (enc : TypeId × Value → H) (ts : List TypeId) (W : World) (args : Array Value) : Prop :=
  ∃ (base : Nat) (ds : List (DataW H)) (p : List MemPlace), (∀ (j : Nat) t v, ts[j]? = some t → args[j]? = some v → Value.okWide C.prog W .any base t v) ∧ DataW.TrodAll enc C.prog W 0 (fun _ => true) true ts args.toList ds p

/-- The step from the walk to what the row asks. -/
theorem law_lifted {C : Checked} {f : FuncId} {fn : Func} {s : ChangeSpec} {os : Os} {H : Type} {enc : TypeId × Value → H} {tb : TypeId} {ts : List TypeId}
    (own : ownKnob C.prog.godebug = none) (laid : laidOutB C.prog = true) (started : os.Started) (noInit : C.prog.inits.idxOf? f = none) (hfn : C.prog.funcs[f]? = some fn) (hts : fn.params = ts.toArray)
    (witness : ∃ (w : World) (tape : Tape) (i : Input), w.os = os ∧ (w.forCall tape i).Shaped C.prog ∧ i.vars = [] ∧ Input.okWide C.prog (w.forCall tape i) .any w.heap.size f i ∧
      s.pre6 enc C.prog fn [] false (w.forCall tape i).memory i.args ∧ ({} : Assume).holds C.prog (lone (Frame.enter C.prog f i.args .normal) [] (w.forCall tape i)))
    (hvars : s.vars = []) (hres : fn.resultTypes = #[tb]) (hb : C.prog.underlying tb = some .bool) (hread : (ts.all fun t => C.prog.readableRec t && decide (t < C.prog.types.size)) = true)
    (hspec : ∀ ds : List (DataW H), ds.length = ts.length → s.fn H ds = { results := [.lit (.bool true)], args := ds })
    (walk : ∀ (W : World) (args : Array Value), Args C H enc ts W args → Calls C.prog f args W fun e W' => e = .returned (.bool true) ∧ Below W.heap.size W W') :
    ReturnsInHanded {} C os f .any (s.pre6 enc C.prog fn [] false) (s.post enc C.prog fn false true false false) := by
  refine returnsInHanded_of_change own started noInit hfn witness ?_
  intro W base args ds gs before hval hW _ _
  have hW' := hW
  obtain ⟨p, q, hA, hV, rfl, hfz, hnd⟩ := hW
  rw [hvars] at hV
  obtain ⟨rfl, rfl⟩ := trodVars_none hV
  rw [hts] at hval
  have hA1 : DataW.TrodAll enc C.prog W 0 (fun _ => true) true ts args.toList ds p := by rw [hts] at hA; exact hA
  have hlen : ds.length = ts.length := trodAll_len _ _ _ _ hA1
  refine (walk W args ⟨base, ds, p, by simpa using hval, hA1⟩).mono fun e W' ⟨he, bel⟩ => ?_
  subst he
  have e1 : s.fn H (ds ++ []) = { results := [.lit (.bool true)], args := ds } := by rw [List.append_nil]; exact hspec ds hlen
  have lt := trodAll_lt _ _ _ _ hA1
  refine ⟨_, rfl, ds, [], p ++ [], [], p, [], hW', ?_, ?_, ?_, bel.frame _, fun h => by cases h⟩
  · rw [e1, hres]
    exact trodAll_mk1 (shut_bool hb _)
  · rw [e1, hts]
    simpa using trodAll_below laid bel _ _ _ _ hread lt hA1
  · rw [e1, hvars]
    exact rfl
end Go.Proofs.YtacpjpkhmdcagaaGreat
