/- This text proves plain laws of the arena's state as a book holds it: which slots are taken, and which are free. It has no conditions but those that it states. This text proves plain laws of a book's side: how its levels and queues stand to its orders, and how they turn. It has no conditions but those that it states. This text proves plain laws of a book's side: how its levels and queues turn when an order goes, or is made less. It has no conditions but those that it states. This text proves how a book lies in memory: its parts, each in blocks of its own, and what a step on one part leaves of the others. It has no conditions but those that it states. -/
import Derived.Test.YtacpjpkhmdcagaaGreatArena
import Derived.Test.YtacpjpkhmdcagaaGreatLadS
import Derived.Test.YtacpjpkhmdcagaaGreatFifoNew
import Derived.Test.YtacpjpkhmdcagaaGreatIndex
import Derived.Test.YtacpjpkhmdcagaaGreatLadW
namespace Go.Proofs.YtacpjpkhmdcagaaGreat
set_option linter.unusedVariables false
namespace Bk
open Are (St takeS dropS setS new0 ord0 st_ext)
/-- A slot, and the order in it. -/
abbrev Sl := Nat × Ord
/-- The free slots, one behind the other. -/
def Chain (nx : Nat → Int) : Int → List Nat → Prop
  | f, [] => f = -1
  | f, x :: l => f = x ∧ Chain nx (nx x) l
theorem Chain.put {nx : Nat → Int} {k : Nat} {v : Int} : ∀ {l : List Nat} {f : Int}, Chain nx f l → k ∉ l → Chain (fun i => if i = k then v else nx i) f l
  | [], _, h, _ => h
  | x :: l, f, h, hk => by
    simp only [List.mem_cons, not_or] at hk
    refine ⟨h.1, ?_⟩
    have e : (fun i => if i = k then v else nx i) x = nx x := if_neg (fun e => hk.1 e.symm)
    rw [e]
    exact Chain.put h.2 hk.2
structure AI (N : Nat) (ss : List Sl) (st : St) (fl : List Nat) : Prop where
  size : st.size = N
  used : st.used = (ss.length : Int)
  chain : Chain st.nx st.free fl
  fnd : fl.Nodup
  fre : ∀ k, k ∈ fl ↔ k < N ∧ k ∉ ss.map (·.1)
  tk : ∀ x ∈ ss, x.1 < N ∧ st.nx x.1 = -2 ∧ st.o x.1 = x.2
  snd : (ss.map (·.1)).Nodup
theorem chain_range (nx : Nat → Int) (N : Nat) (h : ∀ k, k < N → nx k = if k = N - 1 then -1 else (k : Int) + 1) : ∀ m i : Nat, i + m = N → Chain nx (if i = N then -1 else (i : Int)) (List.range' i m)
  | 0, i, e => by
    rw [if_pos (by omega)]
    rfl
  | m + 1, i, e => by
    rw [if_neg (by omega)]
    refine ⟨rfl, ?_⟩
    have h1 := chain_range nx N h m (i + 1) (by omega)
    rw [h i (by omega)]
    by_cases hi : i = N - 1
    · rw [if_pos hi]
      rw [if_pos (by omega)] at h1
      exact h1
    · rw [if_neg hi]
      rw [if_neg (by omega)] at h1
      exact h1
theorem ai_new {N : Nat} (hN : 1 ≤ N) : AI N [] (new0 N) (List.range' 0 N) := by
  refine ⟨rfl, rfl, ?_, List.nodup_range', fun k => ?_, by simp, by simp⟩
  · have h := chain_range (new0 N).nx N (fun k hk => by simp only [new0]; split <;> simp_all) N 0 (by omega)
    rw [if_neg (by omega)] at h
    exact h
  · simp [List.mem_range'_1]
theorem ai_len {N : Nat} {ss : List Sl} {st : St} {fl : List Nat} (h : AI N ss st fl) : ss.length ≤ N := by
  have := Lad.nodup_len (ss.map (·.1)) (List.range N) h.snd (fun a ha => by
    obtain ⟨x, hx, rfl⟩ := List.mem_map.1 ha
    exact List.mem_range.2 (h.tk x hx).1)
  simpa using this
theorem ai_room {N : Nat} {ss : List Sl} {st : St} {fl : List Nat} (h : AI N ss st fl) (hl : ss.length < N) : ∃ k t, fl = k :: t := by
  cases fl with
  | cons k t => exact ⟨k, t, rfl⟩
  | nil =>
    have := Lad.nodup_len (List.range N) (ss.map (·.1)) List.nodup_range (fun a ha => by
      by_cases hm : a ∈ ss.map (·.1)
      · exact hm
      · have := (h.fre a).2 ⟨List.mem_range.1 ha, hm⟩
        simp at this)
    simp at this
    omega
theorem ai_take {N k : Nat} {ss : List Sl} {st : St} {fl : List Nat} (h : AI N ss st (k :: fl)) (o : Ord) : AI N (ss ++ [(k, o)]) (takeS st k o) fl := by
  obtain ⟨h1, h2, h3, h4, h5, h6, h7⟩ := h
  obtain ⟨hkf, hnd⟩ := List.nodup_cons.1 h4
  have hk := (h5 k).1 (by simp)
  have hne : ∀ x ∈ ss, x.1 ≠ k := fun x hx e => hk.2 (List.mem_map.2 ⟨x, hx, e⟩)
  refine ⟨h1, ?_, Chain.put h3.2 hkf, hnd, fun j => ?_, ?_, ?_⟩
  · simp [takeS, h2]
  · have := h5 j
    simp only [List.mem_cons, List.map_append, List.map_cons, List.map_nil, List.mem_append, not_or] at this ⊢
    constructor
    · intro hj
      obtain ⟨a, b⟩ := this.1 (.inr hj)
      exact ⟨a, b, fun e => hkf (e ▸ hj), by simp⟩
    · rintro ⟨a, b, c⟩
      rcases this.2 ⟨a, b⟩ with e | e
      · exact absurd e c.1
      · exact e
  · intro x hx
    rcases List.mem_append.1 hx with hx | hx
    · obtain ⟨a, b, c⟩ := h6 x hx
      have e := hne x hx
      exact ⟨a, by simp [takeS, e, b], by simp [takeS, e, c]⟩
    · obtain rfl := List.mem_singleton.1 hx
      exact ⟨hk.1, by simp [takeS], by simp [takeS]⟩
  · rw [List.map_append, List.nodup_append]
    refine ⟨h7, by simp, fun a ha b hb e => ?_⟩
    obtain ⟨x, hx, rfl⟩ := List.mem_map.1 ha
    simp at hb
    exact hne x hx (e.trans hb)
theorem ai_drop {N k : Nat} {a b : List Sl} {o : Ord} {st : St} {fl : List Nat} (h : AI N (a ++ (k, o) :: b) st fl) : AI N (a ++ b) (dropS st k) (k :: fl) := by
  obtain ⟨h1, h2, h3, h4, h5, h6, h7⟩ := h
  have hkn := h6 (k, o) (by simp)
  have hnd : ((a ++ b).map (·.1)).Nodup ∧ k ∉ (a ++ b).map (·.1) := by
    have h := h7
    rw [List.map_append, List.map_cons] at h
    have hp := (List.perm_middle (a := k) (l₁ := a.map (·.1)) (l₂ := b.map (·.1))).nodup_iff.1 h
    rw [List.nodup_cons, ← List.map_append] at hp
    exact ⟨hp.2, hp.1⟩
  have hkf : k ∉ fl := fun hm => ((h5 k).1 hm).2 (by simp)
  refine ⟨h1, ?_, ⟨rfl, ?_⟩, List.nodup_cons.2 ⟨hkf, h4⟩, fun j => ?_, ?_, hnd.1⟩
  · simp [dropS, h2]
    omega
  · have e : (dropS st k).nx k = st.free := by simp [dropS]
    rw [e]
    exact Chain.put h3 hkf
  · have := h5 j
    rw [List.mem_cons]
    simp only [List.map_append, List.map_cons, List.mem_append, List.mem_cons, not_or] at this ⊢
    have h8 := hnd.2
    simp only [List.map_append, List.mem_append, not_or] at h8
    constructor
    · rintro (rfl | hj)
      · exact ⟨hkn.1, h8⟩
      · obtain ⟨p, q, _, r⟩ := this.1 hj
        exact ⟨p, q, r⟩
    · rintro ⟨p, q, r⟩
      by_cases e : j = k
      · exact .inl e
      · exact .inr (this.2 ⟨p, q, e, r⟩)
  · intro x hx
    have hx' : x ∈ a ++ (k, o) :: b := by
      rcases List.mem_append.1 hx with h | h
      · exact List.mem_append.2 (.inl h)
      · exact List.mem_append.2 (.inr (List.mem_cons_of_mem _ h))
    obtain ⟨p, q, r⟩ := h6 x hx'
    have hne : x.1 ≠ k := fun e => hnd.2 (List.mem_map.2 ⟨x, hx, e⟩)
    exact ⟨p, by simp [dropS, hne, q], by simp [dropS, hne, r]⟩
theorem ai_set {N k : Nat} {a b : List Sl} {o : Ord} {st : St} {fl : List Nat} (h : AI N (a ++ (k, o) :: b) st fl) (x : Ord) : AI N (a ++ (k, x) :: b) (setS st k x) fl := by
  obtain ⟨h1, h2, h3, h4, h5, h6, h7⟩ := h
  have hkn := h6 (k, o) (by simp)
  have hnd : k ∉ (a ++ b).map (·.1) := by
    have h := h7
    rw [List.map_append, List.map_cons] at h
    have hp := (List.perm_middle (a := k) (l₁ := a.map (·.1)) (l₂ := b.map (·.1))).nodup_iff.1 h
    rw [List.nodup_cons, ← List.map_append] at hp
    exact hp.1
  refine ⟨h1, by simpa [setS] using h2, h3, h4, fun j => by simpa using h5 j, ?_, by simpa using h7⟩
  intro y hy
  rcases List.mem_append.1 hy with hy | hy
  · have hne : y.1 ≠ k := fun e => hnd (by rw [List.map_append]; exact List.mem_append.2 (.inl (List.mem_map.2 ⟨y, hy, e⟩)))
    obtain ⟨p, q, r⟩ := h6 y (List.mem_append.2 (.inl hy))
    exact ⟨p, by simp [setS, q], by simp [setS, hne, r]⟩
  · rcases List.mem_cons.1 hy with rfl | hy
    · exact ⟨hkn.1, by simpa [setS] using hkn.2.1, by simp [setS]⟩
    · have hne : y.1 ≠ k := fun e => hnd (by rw [List.map_append]; exact List.mem_append.2 (.inr (List.mem_map.2 ⟨y, hy, e⟩)))
      obtain ⟨p, q, r⟩ := h6 y (List.mem_append.2 (.inr (List.mem_cons_of_mem _ hy)))
      exact ⟨p, by simp [setS, q], by simp [setS, hne, r]⟩
end Bk
end Go.Proofs.YtacpjpkhmdcagaaGreat
namespace Go.Proofs.YtacpjpkhmdcagaaGreat
set_option linter.unusedVariables false
namespace Bk
open Lad (Up Stands keys keyF busy setU clrU keys_at up_pw up_set up_insert up_erase busy_set busy_clr setU_lt clrU_lt)
open Fif (up up_same up_ne)
def atp (p : Int) (xs : List Sl) : List Sl := xs.filter fun x => decide (x.2.price = p)
def sumq : List Sl → Int
  | [] => 0
  | x :: l => x.2.qty + sumq l
theorem sumq_app (a b : List Sl) : sumq (a ++ b) = sumq a + sumq b := by
  induction a with
  | nil => simp [sumq]
  | cons x l ih => simp [sumq, ih]; omega
theorem sumq_le (l : List Sl) (M : Int) (h : ∀ x ∈ l, x.2.qty ≤ M) (h0 : 0 ≤ M) : sumq l ≤ M * (l.length : Int) := by
  induction l with
  | nil => simp [sumq]
  | cons x l ih =>
    have h1 := h x (by simp)
    have h2 := ih (fun y hy => h y (by simp [hy]))
    simp only [sumq, List.length_cons]
    have : M * ((l.length + 1 : Nat) : Int) = M * (l.length : Int) + M := by rw [Int.natCast_add, Int.mul_add]; simp
    omega
theorem sumq_nonneg (l : List Sl) (h : ∀ x ∈ l, 0 ≤ x.2.qty) : 0 ≤ sumq l := by
  induction l with
  | nil => simp [sumq]
  | cons x l ih =>
    have h1 := h x (by simp)
    have h2 := ih (fun y hy => h y (by simp [hy]))
    simp only [sumq]
    omega
theorem atp_app (p : Int) (a b : List Sl) : atp p (a ++ b) = atp p a ++ atp p b := List.filter_append ..
theorem atp_cons_pos (x : Sl) (b : List Sl) : atp x.2.price (x :: b) = x :: atp x.2.price b := by simp [atp]
theorem atp_cons_neg {p : Int} {x : Sl} (b : List Sl) (h : x.2.price ≠ p) : atp p (x :: b) = atp p b := by simp [atp, h]
/-- A level that tells of the orders at its price. -/
structure LV (most : Nat) (xs : List Sl) (L : Nat → List Nat) (l : Lvl) : Prop where
  orders : l.orders = ((atp l.price xs).length : Int)
  qty : l.qty = sumq (atp l.price xs)
  some : 1 ≤ l.orders
  rng : 1 ≤ l.price ∧ l.price ≤ 1099511627776
  q0 : 0 ≤ l.queue ∧ l.queue < (most : Int)
  list : L l.queue.toNat = (atp l.price xs).map (·.1)
structure SI (n : Int) (most : Nat) (xs : List Sl) (ls : List Lvl) (u : Nat → Nat) (L : Nat → List Nat) : Prop where
  up : Up n ls
  lv : ∀ l ∈ ls, LV most xs L l
  all : ∀ x ∈ xs, ∃ l ∈ ls, l.price = x.2.price
  qs : (ls.map (·.queue)).Nodup
  bz : ∀ j : Nat, busy u j = true ↔ (j : Int) ∈ ls.map (·.queue)
  emp : ∀ j : Nat, (j : Int) ∉ ls.map (·.queue) → L j = []
  ul : ∀ j, j < 4 → u j < 2 ^ 64
  len : ls.length ≤ most
theorem si_start (n : Int) (most : Nat) : SI n most [] [] (fun _ => 0) (fun _ => []) :=
  ⟨fun i j _ h => absurd h (by simp), by simp, by simp, by simp, fun j => by simp [busy], fun _ _ => rfl, fun _ _ => by simp, by simp⟩
section
variable {n : Int} {most : Nat} {xs : List Sl} {ls : List Lvl} {u : Nat → Nat} {L : Nat → List Nat}
theorem up_prices {a b : Lvl} (S : Up n ls) (ha : a ∈ ls) (hb : b ∈ ls) (h : a.price = b.price) : a = b := by
  obtain ⟨i, hi, rfl⟩ := List.mem_iff_getElem.1 ha
  obtain ⟨j, hj, rfl⟩ := List.mem_iff_getElem.1 hb
  have hk : keys n ls i = keys n ls j := by rw [keys_at hi, keys_at hj, h]
  rcases Nat.lt_trichotomy i j with e | e | e
  · have := S i j e hj
    omega
  · subst e; rfl
  · have := S j i e hi
    omega
theorem mem_set_iff {i : Nat} {l x y : Lvl} (hup : Up n ls) (hl : ls[i]? = some l) (h : y ∈ ls.set i x) : y = x ∨ (y ∈ ls ∧ y.price ≠ l.price) := by
  obtain ⟨hi, rfl⟩ := List.getElem?_eq_some_iff.1 hl
  obtain ⟨j, hj, rfl⟩ := List.mem_iff_getElem.1 h
  rw [List.length_set] at hj
  rw [List.getElem_set]
  by_cases e : i = j
  · rw [if_pos e]; exact .inl rfl
  · rw [if_neg e]
    refine .inr ⟨List.getElem_mem hj, fun hp => ?_⟩
    have hk : keys n ls i = keys n ls j := by rw [keys_at hi, keys_at hj, hp]
    rcases Nat.lt_or_gt_of_ne e with e | e
    · have := hup i j e hj
      omega
    · have := hup j i e hi
      omega
theorem queue_ne {a b : Lvl} (hq : (ls.map (·.queue)).Nodup) (ha : a ∈ ls) (hb : b ∈ ls) (h : a.price ≠ b.price) : a.queue ≠ b.queue := by
  obtain ⟨i, hi, rfl⟩ := List.mem_iff_getElem.1 ha
  obtain ⟨j, hj, rfl⟩ := List.mem_iff_getElem.1 hb
  intro e
  have hij : i = j := by
    have h1 := List.pairwise_iff_getElem.1 hq
    rcases Nat.lt_trichotomy i j with e1 | e1 | e1
    · exact absurd (by rw [List.getElem_map, List.getElem_map]; exact e) (h1 i j (by simpa using hi) (by simpa using hj) e1)
    · exact e1
    · exact absurd (by rw [List.getElem_map, List.getElem_map]; exact e.symm) (h1 j i (by simpa using hj) (by simpa using hi) e1)
  subst hij
  exact h rfl
theorem map_set_same {i : Nat} {l x : Lvl} (hl : ls[i]? = some l) (hx : x.queue = l.queue) : (ls.set i x).map (·.queue) = ls.map (·.queue) := by
  obtain ⟨hi, rfl⟩ := List.getElem?_eq_some_iff.1 hl
  rw [List.map_set, hx]
  have h2 : (ls[i]).queue = (ls.map (·.queue))[i]'(by simpa using hi) := by simp
  rw [h2, List.set_getElem_self]
/-- An order comes to a level that is there. -/
theorem si_add (S : SI n most xs ls u L) {i : Nat} {l : Lvl} (hl : ls[i]? = some l) (k : Nat) (o : Ord) (ho : o.price = l.price) :
    SI n most (xs ++ [(k, o)]) (ls.set i ⟨l.price, l.qty + o.qty, l.orders + 1, l.queue⟩) u (up L l.queue.toNat (L l.queue.toNat ++ [k])) := by
  have hml : l ∈ ls := List.mem_of_getElem? hl
  have V := S.lv l hml
  have hmq := map_set_same (x := ⟨l.price, l.qty + o.qty, l.orders + 1, l.queue⟩) hl rfl
  have e1 : atp l.price (xs ++ [(k, o)]) = atp l.price xs ++ [(k, o)] := by
    rw [atp_app]
    congr 1
    simp [atp, ho]
  refine ⟨up_set S.up hl rfl, ?_, ?_, by rw [hmq]; exact S.qs, by rw [hmq]; exact S.bz, ?_, S.ul, by rw [List.length_set]; exact S.len⟩
  · intro y hy
    rcases mem_set_iff S.up hl hy with rfl | ⟨hy, hne⟩
    · refine ⟨?_, ?_, ?_, V.rng, V.q0, ?_⟩
      · show l.orders + 1 = _
        rw [e1, V.orders]; simp
      · show l.qty + o.qty = _
        rw [e1, V.qty, sumq_app]; simp [sumq]
      · have := V.some
        show 1 ≤ l.orders + 1
        omega
      · show up L l.queue.toNat _ l.queue.toNat = _
        rw [up_same, e1, V.list]; simp
    · have W := S.lv y hy
      have e2 : atp y.price (xs ++ [(k, o)]) = atp y.price xs := by
        rw [atp_app]
        have : atp y.price [(k, o)] = [] := by simp [atp, ho]; exact fun e => hne e.symm
        rw [this, List.append_nil]
      have hq := queue_ne S.qs hy hml hne
      refine ⟨by rw [e2]; exact W.orders, by rw [e2]; exact W.qty, W.some, W.rng, W.q0, ?_⟩
      rw [up_ne, e2]
      · exact W.list
      · have h1 := V.q0; have h2 := W.q0; omega
  · intro x hx
    rcases List.mem_append.1 hx with hx | hx
    · obtain ⟨y, hy, e⟩ := S.all x hx
      by_cases hp : y.price = l.price
      · exact ⟨⟨l.price, l.qty + o.qty, l.orders + 1, l.queue⟩, List.mem_of_getElem? (i := i) (by rw [List.getElem?_set_self (List.getElem?_eq_some_iff.1 hl).1]), by show l.price = _; rw [← hp]; exact e⟩
      · refine ⟨y, ?_, e⟩
        obtain ⟨j, hj, rfl⟩ := List.mem_iff_getElem.1 hy
        refine List.mem_iff_getElem.2 ⟨j, by rw [List.length_set]; exact hj, ?_⟩
        rw [List.getElem_set, if_neg]
        rintro rfl
        obtain ⟨hi, rfl⟩ := List.getElem?_eq_some_iff.1 hl
        exact hp rfl
    · obtain rfl := List.mem_singleton.1 hx
      exact ⟨⟨l.price, l.qty + o.qty, l.orders + 1, l.queue⟩, List.mem_of_getElem? (i := i) (by rw [List.getElem?_set_self (List.getElem?_eq_some_iff.1 hl).1]), ho.symm⟩
  · intro j hj
    rw [hmq] at hj
    rw [up_ne]
    · exact S.emp j hj
    · rintro rfl
      exact hj (List.mem_map.2 ⟨l, hml, by have := V.q0; omega⟩)
theorem mem_ins {i : Nat} {x y : Lvl} : y ∈ ls.take i ++ x :: ls.drop i ↔ y = x ∨ y ∈ ls := by
  have h : y ∈ ls ↔ y ∈ ls.take i ∨ y ∈ ls.drop i := by rw [← List.mem_append, List.take_append_drop]
  rw [h, List.mem_append, List.mem_cons]
  constructor
  · rintro (h | h | h)
    · exact .inr (.inl h)
    · exact .inl h
    · exact .inr (.inr h)
  · rintro (h | h | h)
    · exact .inr (.inl h)
    · exact .inl h
    · exact .inr (.inr h)
theorem not_there {p : Int} {i : Nat} (hup : Up n ls) (hst : Stands (keys n ls) ls.length (keyF n p) i) (hnf : ¬ (i < ls.length ∧ keys n ls i = keyF n p)) : ∀ y ∈ ls, y.price ≠ p := by
  intro y hy e
  obtain ⟨j, hj, rfl⟩ := List.mem_iff_getElem.1 hy
  have k1 := keys_at (side := n) hj
  rw [e] at k1
  rcases Nat.lt_or_ge j i with h | h
  · have := hst.lo j h
    omega
  · rcases Nat.lt_or_ge i j with h2 | h2
    · have h3 := hup i j h2 hj
      have h4 := hst.hi i (Nat.le_refl _) (by omega)
      omega
    · have : i = j := by omega
      subst this
      exact hnf ⟨hj, k1⟩
/-- An order comes, and a level for it. -/
theorem si_fresh (S : SI n most xs ls u L) {i qn k : Nat} {o : Ord} (hp : 1 ≤ o.price ∧ o.price ≤ 1099511627776) (hst : Stands (keys n ls) ls.length (keyF n o.price) i) (hnf : ¬ (i < ls.length ∧ keys n ls i = keyF n o.price)) (hq : qn < most) (hfree : busy u qn = false) (hroom : ls.length < most) :
    SI n most (xs ++ [(k, o)]) (ls.take i ++ ⟨o.price, o.qty, 1, qn⟩ :: ls.drop i) (setU u qn) (up L qn (L qn ++ [k])) := by
  have hnt := not_there S.up hst hnf
  have hnx : ∀ x ∈ xs, x.2.price ≠ o.price := fun x hx e => by
    obtain ⟨l, hl, e2⟩ := S.all x hx
    exact hnt l hl (e2.trans e)
  have hnq : (qn : Int) ∉ ls.map (·.queue) := fun h => by
    have := (S.bz qn).2 h
    rw [hfree] at this
    cases this
  have hL : L qn = [] := S.emp qn hnq
  have hperm : ((ls.take i ++ ⟨o.price, o.qty, 1, qn⟩ :: ls.drop i : List Lvl).map (·.queue)).Perm ((qn : Int) :: ls.map (·.queue)) := by
    have h1 : (ls.take i ++ ⟨o.price, o.qty, 1, qn⟩ :: ls.drop i : List Lvl).Perm (⟨o.price, o.qty, 1, qn⟩ :: (ls.take i ++ ls.drop i)) := List.perm_middle
    rw [List.take_append_drop] at h1
    exact h1.map _
  have hae : atp o.price xs = [] := by
    unfold atp
    rw [List.filter_eq_nil_iff]
    intro x hx
    simpa using hnx x hx
  have e1 : atp o.price (xs ++ [(k, o)]) = [(k, o)] := by
    rw [atp_app, hae]
    simp [atp]
  refine ⟨up_insert S.up hst hnf _ rfl, ?_, ?_, ?_, ?_, ?_, setU_lt S.ul _, ?_⟩
  · intro y hy
    rcases mem_ins.1 hy with rfl | hy
    · refine ⟨?_, ?_, by simp, hp, ⟨by simp, by simpa using hq⟩, ?_⟩
      · rw [e1]; rfl
      · rw [e1]; simp [sumq]
      · rw [e1]; simp [up_same, hL]
    · have W := S.lv y hy
      have hne := hnt y hy
      have e2 : atp y.price (xs ++ [(k, o)]) = atp y.price xs := by
        rw [atp_app]
        have : atp y.price [(k, o)] = [] := by simp [atp]; exact fun e => hne e.symm
        rw [this, List.append_nil]
      refine ⟨by rw [e2]; exact W.orders, by rw [e2]; exact W.qty, W.some, W.rng, W.q0, ?_⟩
      rw [up_ne, e2]
      · exact W.list
      · rintro e
        exact hnq (List.mem_map.2 ⟨y, hy, by have := W.q0; omega⟩)
  · intro x hx
    rcases List.mem_append.1 hx with hx | hx
    · obtain ⟨y, hy, e⟩ := S.all x hx
      exact ⟨y, mem_ins.2 (.inr hy), e⟩
    · obtain rfl := List.mem_singleton.1 hx
      exact ⟨_, mem_ins.2 (.inl rfl), rfl⟩
  · exact hperm.nodup_iff.2 (List.nodup_cons.2 ⟨hnq, S.qs⟩)
  · intro j
    rw [hperm.mem_iff, List.mem_cons, busy_set, Bool.or_eq_true, S.bz j, decide_eq_true_eq]
    constructor
    · rintro (h | h)
      · exact .inr h
      · exact .inl (by omega)
    · rintro (h | h)
      · exact .inr (by omega)
      · exact .inl h
  · intro j hj
    rw [hperm.mem_iff, List.mem_cons, not_or] at hj
    rw [up_ne]
    · exact S.emp j hj.2
    · intro e
      exact hj.1 (by rw [e])
  · have := hst.le
    simp only [List.length_append, List.length_take, List.length_cons, List.length_drop]
    omega
end
end Bk
end Go.Proofs.YtacpjpkhmdcagaaGreat
namespace Go.Proofs.YtacpjpkhmdcagaaGreat
set_option linter.unusedVariables false
namespace Bk
open Lad (Up Stands keys keyF busy setU clrU keys_at up_pw up_set up_insert up_erase busy_set busy_clr setU_lt clrU_lt)
open Fif (up up_same up_ne)
section
variable {n : Int} {most : Nat} {a b : List Sl} {k : Nat} {o : Ord} {ls : List Lvl} {u : Nat → Nat} {L : Nat → List Nat}
theorem atp_mid {p : Int} (h : p = o.price) : atp p (a ++ (k, o) :: b) = atp p a ++ (k, o) :: atp p b := by
  subst h
  rw [atp_app]
  congr 1
  simp [atp]
theorem atp_mid_ne {p : Int} (h : o.price ≠ p) : atp p (a ++ (k, o) :: b) = atp p (a ++ b) := by
  rw [atp_app, atp_app]
  congr 1
  simp [atp, h]
/-- Where an order's slot stands in its queue. -/
theorem si_queue (S : SI n most (a ++ (k, o) :: b) ls u L) {l : Lvl} (hl : l ∈ ls) (hp : l.price = o.price) : L l.queue.toNat = (atp l.price a).map (·.1) ++ k :: (atp l.price b).map (·.1) := by
  rw [(S.lv l hl).list, atp_mid hp]
  simp
/-- The level of an order. -/
theorem si_level (S : SI n most (a ++ (k, o) :: b) ls u L) : ∃ (i : Nat) (l : Lvl), ls[i]? = some l ∧ l.price = o.price := by
  obtain ⟨l, hl, e⟩ := S.all (k, o) (by simp)
  obtain ⟨i, hi, rfl⟩ := List.mem_iff_getElem.1 hl
  exact ⟨i, _, List.getElem?_eq_getElem hi, e⟩
theorem mem_mid {α : Type} {a b : List α} {x y : α} (h : y ∈ a ++ b) : y ∈ a ++ x :: b := by
  rcases List.mem_append.1 h with h | h
  · exact List.mem_append.2 (.inl h)
  · exact List.mem_append.2 (.inr (List.mem_cons_of_mem _ h))
/-- One of several orders of a level goes. -/
theorem si_less (S : SI n most (a ++ (k, o) :: b) ls u L) {i : Nat} {l : Lvl} (hl : ls[i]? = some l) (hp : l.price = o.price) (h2 : 2 ≤ l.orders) :
    SI n most (a ++ b) (ls.set i ⟨l.price, l.qty - o.qty, l.orders - 1, l.queue⟩) u (up L l.queue.toNat ((atp l.price a).map (·.1) ++ (atp l.price b).map (·.1))) := by
  have hml : l ∈ ls := List.mem_of_getElem? hl
  have V := S.lv l hml
  have hmq := map_set_same (x := ⟨l.price, l.qty - o.qty, l.orders - 1, l.queue⟩) hl rfl
  have hmid := atp_mid (a := a) (b := b) (k := k) hp
  have hst : ∀ y ∈ ls, y.price ≠ l.price → y ∈ ls.set i ⟨l.price, l.qty - o.qty, l.orders - 1, l.queue⟩ := fun y hy hne => by
    obtain ⟨j, hj, rfl⟩ := List.mem_iff_getElem.1 hy
    refine List.mem_iff_getElem.2 ⟨j, by rw [List.length_set]; exact hj, ?_⟩
    rw [List.getElem_set, if_neg]
    rintro rfl
    obtain ⟨hi, rfl⟩ := List.getElem?_eq_some_iff.1 hl
    exact hne rfl
  refine ⟨up_set S.up hl rfl, ?_, ?_, by rw [hmq]; exact S.qs, by rw [hmq]; exact S.bz, ?_, S.ul, by rw [List.length_set]; exact S.len⟩
  · intro y hy
    rcases mem_set_iff S.up hl hy with rfl | ⟨hy, hne⟩
    · refine ⟨?_, ?_, ?_, V.rng, V.q0, ?_⟩
      · show l.orders - 1 = _
        rw [V.orders, hmid, atp_app]; simp; omega
      · show l.qty - o.qty = _
        rw [V.qty, hmid, atp_app, sumq_app, sumq_app]; simp only [sumq]; omega
      · show 1 ≤ l.orders - 1
        omega
      · show up L l.queue.toNat _ l.queue.toNat = _
        rw [up_same, atp_app]; simp
    · have W := S.lv y hy
      have e2 : atp y.price (a ++ b) = atp y.price (a ++ (k, o) :: b) := (atp_mid_ne (fun e => hne (by rw [← e, hp]))).symm
      have hq := queue_ne S.qs hy hml hne
      refine ⟨by rw [e2]; exact W.orders, by rw [e2]; exact W.qty, W.some, W.rng, W.q0, ?_⟩
      rw [up_ne, e2]
      · exact W.list
      · have h1 := V.q0; have h2 := W.q0; omega
  · intro x hx
    obtain ⟨y, hy, e⟩ := S.all x (mem_mid hx)
    by_cases hpe : y.price = l.price
    · exact ⟨⟨l.price, l.qty - o.qty, l.orders - 1, l.queue⟩, List.mem_of_getElem? (i := i) (by rw [List.getElem?_set_self (List.getElem?_eq_some_iff.1 hl).1]), by show l.price = _; rw [← hpe]; exact e⟩
    · exact ⟨y, hst y hy hpe, e⟩
  · intro j hj
    rw [hmq] at hj
    rw [up_ne]
    · exact S.emp j hj
    · rintro rfl
      exact hj (List.mem_map.2 ⟨l, hml, by have := V.q0; omega⟩)
/-- An order is made less. -/
theorem si_part (S : SI n most (a ++ (k, o) :: b) ls u L) {i : Nat} {l : Lvl} (hl : ls[i]? = some l) (hp : l.price = o.price) (z : Int) :
    SI n most (a ++ (k, { o with qty := o.qty - z }) :: b) (ls.set i ⟨l.price, l.qty - z, l.orders, l.queue⟩) u L := by
  have hml : l ∈ ls := List.mem_of_getElem? hl
  have V := S.lv l hml
  have hmq := map_set_same (x := ⟨l.price, l.qty - z, l.orders, l.queue⟩) hl rfl
  have hmid := atp_mid (a := a) (b := b) (k := k) hp
  have hmid2 := atp_mid (p := l.price) (a := a) (b := b) (k := k) (o := { o with qty := o.qty - z }) hp
  have hst : ∀ y ∈ ls, y.price ≠ l.price → y ∈ ls.set i ⟨l.price, l.qty - z, l.orders, l.queue⟩ := fun y hy hne => by
    obtain ⟨j, hj, rfl⟩ := List.mem_iff_getElem.1 hy
    refine List.mem_iff_getElem.2 ⟨j, by rw [List.length_set]; exact hj, ?_⟩
    rw [List.getElem_set, if_neg]
    rintro rfl
    obtain ⟨hi, rfl⟩ := List.getElem?_eq_some_iff.1 hl
    exact hne rfl
  refine ⟨up_set S.up hl rfl, ?_, ?_, by rw [hmq]; exact S.qs, by rw [hmq]; exact S.bz, by rw [hmq]; exact S.emp, S.ul, by rw [List.length_set]; exact S.len⟩
  · intro y hy
    rcases mem_set_iff S.up hl hy with rfl | ⟨hy, hne⟩
    · refine ⟨?_, ?_, V.some, V.rng, V.q0, ?_⟩
      · show l.orders = _
        rw [V.orders, hmid, hmid2]; simp
      · show l.qty - z = _
        rw [V.qty, hmid, hmid2, sumq_app, sumq_app]; simp only [sumq]; omega
      · show L l.queue.toNat = _
        rw [V.list, hmid, hmid2]; simp
    · have W := S.lv y hy
      have e2 : atp y.price (a ++ (k, { o with qty := o.qty - z }) :: b) = atp y.price (a ++ (k, o) :: b) := (atp_mid_ne (o := { o with qty := o.qty - z }) (fun e => hne (by rw [← e, hp]))).trans (atp_mid_ne (fun e => hne (by rw [← e, hp]))).symm
      exact ⟨by rw [e2]; exact W.orders, by rw [e2]; exact W.qty, W.some, W.rng, W.q0, by rw [e2]; exact W.list⟩
  · intro x hx
    have hx' : ∃ x' ∈ a ++ (k, o) :: b, x'.2.price = x.2.price := by
      rcases List.mem_append.1 hx with h | h
      · exact ⟨x, List.mem_append.2 (.inl h), rfl⟩
      · rcases List.mem_cons.1 h with rfl | h
        · exact ⟨(k, o), by simp, rfl⟩
        · exact ⟨x, List.mem_append.2 (.inr (List.mem_cons_of_mem _ h)), rfl⟩
    obtain ⟨x', hx', e'⟩ := hx'
    obtain ⟨y, hy, e⟩ := S.all x' hx'
    rw [e'] at e
    by_cases hpe : y.price = l.price
    · exact ⟨⟨l.price, l.qty - z, l.orders, l.queue⟩, List.mem_of_getElem? (i := i) (by rw [List.getElem?_set_self (List.getElem?_eq_some_iff.1 hl).1]), by show l.price = _; rw [← hpe]; exact e⟩
    · exact ⟨y, hst y hy hpe, e⟩
/-- A level's last order goes, and with it the level. -/
theorem si_last (S : SI n most (a ++ (k, o) :: b) ls u L) (hm : most ≤ 200) {i : Nat} {l : Lvl} (hl : ls[i]? = some l) (hp : l.price = o.price) (h1 : l.orders = 1) :
    SI n most (a ++ b) (ls.eraseIdx i) (clrU u l.queue.toNat) (up L l.queue.toNat ((atp l.price a).map (·.1) ++ (atp l.price b).map (·.1))) := by
  have hml : l ∈ ls := List.mem_of_getElem? hl
  have V := S.lv l hml
  obtain ⟨hi, hge⟩ := List.getElem?_eq_some_iff.1 hl
  have hmid := atp_mid (a := a) (b := b) (k := k) hp
  have hcount := V.orders
  rw [h1, hmid] at hcount
  simp only [List.length_append, List.length_cons] at hcount
  have hA : atp l.price a = [] := List.eq_nil_of_length_eq_zero (by omega)
  have hB : atp l.price b = [] := List.eq_nil_of_length_eq_zero (by omega)
  have hperm : (l :: ls.eraseIdx i).Perm ls := by
    rw [List.eraseIdx_eq_take_drop_succ]
    have e : ls = ls.take i ++ l :: ls.drop (i + 1) := by
      rw [← hge, ← List.drop_eq_getElem_cons hi, List.take_append_drop]
    refine List.perm_middle.symm.trans ?_
    rw [← e]
  have hpq : (l.queue :: (ls.eraseIdx i).map (·.queue)).Perm (ls.map (·.queue)) := hperm.map _
  have hnd := hpq.nodup_iff.2 S.qs
  obtain ⟨hnq, hnd⟩ := List.nodup_cons.1 hnd
  have hpr : ∀ y ∈ ls.eraseIdx i, y ∈ ls ∧ y.price ≠ l.price := fun y hy => by
    have hy' : y ∈ ls := hperm.mem_iff.1 (List.mem_cons_of_mem _ hy)
    refine ⟨hy', fun e => ?_⟩
    have := up_prices S.up hy' hml e
    subst this
    exact hnq (List.mem_map.2 ⟨y, hy, rfl⟩)
  have hq0 := V.q0
  refine ⟨up_erase S.up, ?_, ?_, hnd, ?_, ?_, clrU_lt S.ul _, ?_⟩
  · intro y hy
    obtain ⟨hy, hne⟩ := hpr y hy
    have W := S.lv y hy
    have e2 : atp y.price (a ++ b) = atp y.price (a ++ (k, o) :: b) := (atp_mid_ne (fun e => hne (by rw [← e, hp]))).symm
    have hq := queue_ne S.qs hy hml hne
    refine ⟨by rw [e2]; exact W.orders, by rw [e2]; exact W.qty, W.some, W.rng, W.q0, ?_⟩
    rw [up_ne, e2]
    · exact W.list
    · have h1 := V.q0; have h2 := W.q0; omega
  · intro x hx
    obtain ⟨y, hy, e⟩ := S.all x (mem_mid hx)
    have hne : y ≠ l := by
      rintro rfl
      have h0 : atp y.price (a ++ b) = [] := by rw [atp_app, hA, hB]; rfl
      unfold atp at h0
      rw [List.filter_eq_nil_iff] at h0
      have := h0 x hx
      simp [e] at this
    refine ⟨y, ?_, e⟩
    have := hperm.mem_iff.2 hy
    rcases List.mem_cons.1 this with h | h
    · exact absurd h hne
    · exact h
  · intro j
    have hb := S.bz j
    rw [← hpq.mem_iff, List.mem_cons] at hb
    by_cases hj : j < 256
    · rw [busy_clr S.ul _ j hj, Bool.and_eq_true, hb, decide_eq_true_eq]
      constructor
      · rintro ⟨h | h, h2⟩
        · omega
        · exact h
      · intro h
        refine ⟨.inr h, fun e => hnq ?_⟩
        have : l.queue = (j : Int) := by omega
        rw [this]
        exact h
    · have e : busy (clrU u l.queue.toNat) j = busy u j := by
        unfold busy clrU
        rw [if_neg (by omega)]
      rw [e, hb]
      constructor
      · rintro (h | h)
        · omega
        · exact h
      · exact .inr
  · intro j hj
    by_cases e : j = l.queue.toNat
    · subst e
      rw [up_same, hA, hB]
      rfl
    · rw [up_ne _ _ e]
      refine S.emp j (fun h => ?_)
      rw [← hpq.mem_iff, List.mem_cons] at h
      rcases h with h | h
      · omega
      · exact hj h
  · rw [List.length_eraseIdx_of_lt hi]
    have := S.len
    omega
end
end Bk
end Go.Proofs.YtacpjpkhmdcagaaGreat
namespace Go.Proofs.YtacpjpkhmdcagaaGreat
set_option linter.unusedVariables false
open Go.RowKit
namespace Bk
set_option maxRecDepth 10000
open Are (St Ar)
open Lad (La LStep Fresh)
open Fif (Fq up up_same up_ne)
open Idx (R3 Xq)
/-- Where a book's parts lie, and what they hold. -/
structure Bd where
  a : Nat
  x : Nat
  bs : Nat
  bm : Nat
  l : Nat → Nat
  q : Nat → Nat
  bn : Nat → Nat
  be : Nat → Nat
  v : Nat → Value
  ls : Nat → List Lvl
  u : Nat → Nat → Nat
  L : Nat → Nat → List Nat
  st : St
  fl : List Nat
def bookArr (a x l0 q0 l1 q1 : Nat) : Array Value := #[.pointer (some ⟨a, 0, none⟩), .pointer (some ⟨l0, 0, none⟩), .pointer (some ⟨q0, 0, none⟩), .pointer (some ⟨l1, 0, none⟩), .pointer (some ⟨q1, 0, none⟩), .pointer (some ⟨x, 0, none⟩)]
/-- The book in memory. Each block has a colour: that of the part that it belongs to; 9: it isn't the book's. -/
structure Bw (w : World) (c : Nat → Nat) (b N most k : Nat) (d : Bd) (R : List R3) : Prop where
  hd : Blk w b 91 (bookArr d.a d.x (d.l 0) (d.q 0) (d.l 1) (d.q 1))
  ar : Ar w d.a d.st
  la : ∀ n : Nat, n < 2 → La w (d.l n) (n : Int) (most : Int) (d.v n) (d.ls n) (d.u n)
  fq : ∀ n, n < 2 → Fq w (d.q n) (d.bn n) (d.be n) N most (d.L n)
  ix : Xq w d.x d.bs d.bm k R
  cb : c b = 0
  ca : c d.a = 1
  cl : ∀ n, n < 2 → c (d.l n) = 2 + n
  cq : ∀ n, n < 2 → c (d.q n) = 4 + n ∧ c (d.bn n) = 4 + n ∧ c (d.be n) = 4 + n
  cx : c d.x = 6 ∧ c d.bs = 6 ∧ c d.bm = 6
  cv : ∀ n, n < 2 → ∀ r, (d.v n).ownBlock = some r → c r = 2 + n
  out : ∀ r, w.heap.size ≤ r → c r = 9
/-- What a step of a book leaves: all blocks that aren't its own. -/
structure Cs (c c' : Nat → Nat) (w w' : World) : Prop where
  os : w'.os = w.os
  tape : w'.tape = w.tape
  output : w'.output = w.output
  size : w.heap.size ≤ w'.heap.size
  old : ∀ q, q < w.heap.size → c' q = c q
  same : ∀ q, q < w.heap.size → c q = 9 → w'.heap[q]? = w.heap[q]?
theorem Cs.refl (c : Nat → Nat) (w : World) : Cs c c w w := ⟨rfl, rfl, rfl, Nat.le_refl _, fun _ _ => rfl, fun _ _ _ => rfl⟩
theorem Cs.trans {c c1 c2 : Nat → Nat} {w w1 w2 : World} (h : Cs c c1 w w1) (k : Cs c1 c2 w1 w2) : Cs c c2 w w2 :=
  ⟨k.os.trans h.os, k.tape.trans h.tape, k.output.trans h.output, Nat.le_trans h.size k.size, fun q hq => (k.old q (Nat.lt_of_lt_of_le hq h.size)).trans (h.old q hq),
    fun q hq h9 => (k.same q (Nat.lt_of_lt_of_le hq h.size) ((h.old q hq).trans h9)).trans (h.same q hq h9)⟩
theorem Cs.of_below {c : Nat → Nat} {w w' : World} (h : Below w.heap.size w w') : Cs c c w w' := ⟨h.os, h.tape, h.output, h.size, fun _ _ => rfl, fun q hq _ => h.block q hq⟩
theorem Cs.blk {c c' : Nat → Nat} {w w' : World} {z : Nat} {t : TypeId} {cs : Array Value} (h : Cs c c' w w') (hb : Blk w z t cs) (hz : c z = 9) : Blk w' z t cs := (h.same z hb.lt hz).trans hb
theorem Cs.nine {c c' : Nat → Nat} {w w' : World} {z : Nat} (h : Cs c c' w w') (hb : z < w.heap.size) (hz : c z = 9) : c' z = 9 := (h.old z hb).trans hz
theorem Cs.below {c c' : Nat → Nat} {w w' : World} {B : Nat} (h : Cs c c' w w') (hB : B ≤ w.heap.size) (h9 : ∀ q, q < B → c q = 9) : Below B w w' :=
  ⟨h.os, h.tape, h.output, h.size, fun q hq => h.same q (Nat.lt_of_lt_of_le hq hB) (h9 q hq)⟩
theorem Cs.cell {c c' : Nat → Nat} {w w' : World} {p : Addr} {v : Value} (h : Cs c c' w w') (hb : w.cell? p = some v) (hz : c p.block = 9) : w'.cell? p = some v :=
  (World.cell?_of_block (h.same p.block (cell_lt hb) hz)).trans hb
theorem Cs.rd {c c' : Nat → Nat} {w w' : World} {k : Nat} {A : Option Addr} {l : List (List Value)} (h : Cs c c' w w') (hr : Rd w k A l) (hz : ∀ a, A = some a → c a.block = 9) (hl : ∀ a, A = some a → a.block < w.heap.size) : Rd w' k A l :=
  hr.keep (fun a e => h.same a.block (hl a e) (hz a e))
section
variable {w w' : World} {c : Nat → Nat} {b N most k : Nat} {d : Bd} {R : List R3}
theorem ar_keep {g : Nat} {s : St} (h : Ar w g s) (hk : w'.heap[g]? = w.heap[g]?) : Ar w' g s := by
  obtain ⟨cs, h1, h2⟩ := h
  exact ⟨cs, hk.trans h1, h2⟩
theorem la_keep {g : Nat} {side m : Int} {v : Value} {ls : List Lvl} {u : Nat → Nat} (h : La w g side m v ls u) (hk : w'.heap[g]? = w.heap[g]?) (hv : ∀ r, v.ownBlock = some r → w'.heap[r]? = w.heap[r]?) : La w' g side m v ls u := by
  refine ⟨hk.trans h.hd, ⟨h.row.1, ?_⟩, h.len, h.rng⟩
  rcases h.row.2 with h0 | ⟨r, cap, cur, rfl, hb, hg, h1⟩
  · exact .inl h0
  · exact .inr ⟨r, cap, cur, rfl, hb, (hv r rfl).trans hg, h1⟩
theorem fq_keep {g bn be N Q : Nat} {L : Nat → List Nat} (h : Fq w g bn be N Q L) (hg : w'.heap[g]? = w.heap[g]?) (hn : w'.heap[bn]? = w.heap[bn]?) (he : w'.heap[be]? = w.heap[be]?) : Fq w' g bn be N Q L := by
  obtain ⟨s, cn, ce, f, I⟩ := h
  exact ⟨s, cn, ce, ⟨hg.trans f.hd, hn.trans f.fbn, he.trans f.fbe, f.tn, f.te, f.ne, f.lim⟩, I⟩
theorem xq_keep {xb bs bm n : Nat} {R : List R3} (h : Xq w xb bs bm n R) (h1 : w'.heap[xb]? = w.heap[xb]?) (h2 : w'.heap[bs]? = w.heap[bs]?) (h3 : w'.heap[bm]? = w.heap[bm]?) : Xq w' xb bs bm n R := by
  obtain ⟨p1, ⟨D, ⟨es, clock, hb', F, hs, hD⟩, hS⟩, ⟨E, ⟨es2, clock2, hb2, F2, hs2, hD2⟩, hS2⟩, p4, p5, p6, p7⟩ := h
  exact ⟨h1.trans p1, ⟨D, ⟨es, clock, h2.trans hb', F, hs, hD⟩, hS⟩, ⟨E, ⟨es2, clock2, h3.trans hb2, F2, hs2, hD2⟩, hS2⟩, p4, p5, p6, p7⟩
/-- Which blocks a step leaves: all but those of one colour. -/
structure Only (c : Nat → Nat) (j : Nat) (w w' : World) : Prop where
  os : w'.os = w.os
  tape : w'.tape = w.tape
  output : w'.output = w.output
  size : w.heap.size ≤ w'.heap.size
  same : ∀ q, q < w.heap.size → c q ≠ j → w'.heap[q]? = w.heap[q]?
theorem Only.cs {j : Nat} (h : Only c j w w') (hj : j ≠ 9) : Cs c c w w' := ⟨h.os, h.tape, h.output, h.size, fun _ _ => rfl, fun q hq h9 => h.same q hq (by omega)⟩
theorem Only.but {g j : Nat} (h : But g w.heap.size w w') (hc : c g = j) : Only c j w w' := ⟨h.os, h.tape, h.output, h.size, fun q hq hne => h.block q hq (fun e => hne (by rw [e, hc]))⟩
theorem Only.butL {l : List Nat} {j : Nat} (h : ButL l w.heap.size w w') (hc : ∀ g ∈ l, c g = j) : Only c j w w' := ⟨h.os, h.tape, h.output, h.size, fun q hq hne => h.block q hq (fun e => hne (hc q e))⟩
theorem Only.lstep {g j : Nat} {v v' : Value} (h : LStep g v v' w w') (hc : c g = j) (hv : ∀ r, v.ownBlock = some r → c r = j) : Only c j w w' :=
  ⟨h.os, h.tape, h.output, h.size, fun q hq hne => h.block q hq (fun e => hne (by rw [e, hc])) (fun e => hne (hv q e))⟩
theorem Bw.lt (B : Bw w c b N most k d R) : b < w.heap.size := B.hd.lt
theorem Bw.ext (B : Bw w c b N most k d R) (h : Below w.heap.size w w') : Bw w' c b N most k d R :=
  ⟨B.hd.ext h, B.ar.ext h, fun n hn => (B.la n hn).ext h, fun n hn => (B.fq n hn).ext h, B.ix.ext h, B.cb, B.ca, B.cl, B.cq, B.cx, B.cv, fun r hr => B.out r (Nat.le_trans h.size hr)⟩
theorem Bw.far (B : Bw w c b N most k d R) {z : Nat} (hz : c z = 9) : b ≠ z := fun e => by have := B.cb; rw [e, hz] at this; cases this
/-- A step on the arena. -/
theorem Bw.stepA (B : Bw w c b N most k d R) (h : But d.a w.heap.size w w') {st' : St} {fl' : List Nat} (hA : Ar w' d.a st') : Bw w' c b N most k { d with st := st', fl := fl' } R ∧ Cs c c w w' := by
  have O : Only c 1 w w' := Only.but h B.ca
  have hl : ∀ n, n < 2 → d.l n < w.heap.size := fun n hn => (B.la n hn).hd.lt
  have hq : ∀ n, n < 2 → _ := fun n hn => (B.fq n hn).lt
  obtain ⟨x1, x2, x3⟩ := B.ix.lt
  refine ⟨⟨(O.same b B.lt (by rw [B.cb]; decide)).trans B.hd, hA, fun n hn => la_keep (B.la n hn) (O.same _ (hl n hn) (by rw [B.cl n hn]; omega)) (fun r hr => O.same r ((B.la n hn).own_lt r hr).2 (by rw [B.cv n hn r hr]; omega)),
    fun n hn => fq_keep (B.fq n hn) (O.same _ (hq n hn).1 (by rw [(B.cq n hn).1]; omega)) (O.same _ (hq n hn).2.1 (by rw [(B.cq n hn).2.1]; omega)) (O.same _ (hq n hn).2.2 (by rw [(B.cq n hn).2.2]; omega)),
    xq_keep B.ix (O.same _ x1 (by rw [B.cx.1]; decide)) (O.same _ x2 (by rw [B.cx.2.1]; decide)) (O.same _ x3 (by rw [B.cx.2.2]; decide)), B.cb, B.ca, B.cl, B.cq, B.cx, B.cv, fun r hr => B.out r (Nat.le_trans h.size hr)⟩, O.cs (by decide)⟩
/-- A step on a side's queues. -/
theorem Bw.stepQ (B : Bw w c b N most k d R) {m : Nat} (hm : m < 2) (h : ButL [d.bn m, d.be m] w.heap.size w w') {L' : Nat → List Nat} (hF : Fq w' (d.q m) (d.bn m) (d.be m) N most L') : Bw w' c b N most k { d with L := up d.L m L' } R ∧ Cs c c w w' := by
  have O : Only c (4 + m) w w' := Only.butL h (fun g hg => by
    simp only [List.mem_cons, List.not_mem_nil, or_false] at hg
    rcases hg with rfl | rfl
    · exact (B.cq m hm).2.1
    · exact (B.cq m hm).2.2)
  have hl : ∀ n, n < 2 → d.l n < w.heap.size := fun n hn => (B.la n hn).hd.lt
  have hq : ∀ n, n < 2 → _ := fun n hn => (B.fq n hn).lt
  obtain ⟨x1, x2, x3⟩ := B.ix.lt
  refine ⟨⟨(O.same b B.lt (by rw [B.cb]; omega)).trans B.hd, ar_keep B.ar (O.same _ B.ar.lt (by rw [B.ca]; omega)), fun n hn => la_keep (B.la n hn) (O.same _ (hl n hn) (by rw [B.cl n hn]; omega)) (fun r hr => O.same r ((B.la n hn).own_lt r hr).2 (by rw [B.cv n hn r hr]; omega)),
    fun n hn => ?_,
    xq_keep B.ix (O.same _ x1 (by rw [B.cx.1]; omega)) (O.same _ x2 (by rw [B.cx.2.1]; omega)) (O.same _ x3 (by rw [B.cx.2.2]; omega)), B.cb, B.ca, B.cl, B.cq, B.cx, B.cv, fun r hr => B.out r (Nat.le_trans h.size hr)⟩, O.cs (by omega)⟩
  show Fq w' (d.q n) (d.bn n) (d.be n) N most (up d.L m L' n)
  by_cases e : n = m
  · subst e
    rw [up_same]
    exact hF
  · rw [up_ne _ _ e]
    exact fq_keep (B.fq n hn) (O.same _ (hq n hn).1 (by rw [(B.cq n hn).1]; omega)) (O.same _ (hq n hn).2.1 (by rw [(B.cq n hn).2.1]; omega)) (O.same _ (hq n hn).2.2 (by rw [(B.cq n hn).2.2]; omega))
/-- A step on the index. -/
theorem Bw.stepX (B : Bw w c b N most k d R) (h : ButL [d.bs, d.bm] w.heap.size w w') {k' : Nat} {R' : List R3} (hX : Xq w' d.x d.bs d.bm k' R') : Bw w' c b N most k' d R' ∧ Cs c c w w' := by
  have O : Only c 6 w w' := Only.butL h (fun g hg => by
    simp only [List.mem_cons, List.not_mem_nil, or_false] at hg
    rcases hg with rfl | rfl
    · exact B.cx.2.1
    · exact B.cx.2.2)
  have hl : ∀ n, n < 2 → d.l n < w.heap.size := fun n hn => (B.la n hn).hd.lt
  have hq : ∀ n, n < 2 → _ := fun n hn => (B.fq n hn).lt
  refine ⟨⟨(O.same b B.lt (by rw [B.cb]; omega)).trans B.hd, ar_keep B.ar (O.same _ B.ar.lt (by rw [B.ca]; omega)), fun n hn => la_keep (B.la n hn) (O.same _ (hl n hn) (by rw [B.cl n hn]; omega)) (fun r hr => O.same r ((B.la n hn).own_lt r hr).2 (by rw [B.cv n hn r hr]; omega)),
    fun n hn => fq_keep (B.fq n hn) (O.same _ (hq n hn).1 (by rw [(B.cq n hn).1]; omega)) (O.same _ (hq n hn).2.1 (by rw [(B.cq n hn).2.1]; omega)) (O.same _ (hq n hn).2.2 (by rw [(B.cq n hn).2.2]; omega)),
    hX, B.cb, B.ca, B.cl, B.cq, B.cx, B.cv, fun r hr => B.out r (Nat.le_trans h.size hr)⟩, O.cs (by omega)⟩
/-- A step on a side's ladder: its row may be a new one. -/
theorem Bw.stepL (B : Bw w c b N most k d R) {m : Nat} (hm : m < 2) {v' : Value} {ls' : List Lvl} {u' : Nat → Nat} (h : LStep (d.l m) (d.v m) v' w w') (hL : La w' (d.l m) (m : Int) (most : Int) v' ls' u') :
    ∃ c', Bw w' c' b N most k { d with v := up d.v m v', ls := up d.ls m ls', u := up d.u m u' } R ∧ Cs c c' w w' := by
  have O : Only c (2 + m) w w' := Only.lstep h (B.cl m hm) (B.cv m hm)
  have hl : ∀ n, n < 2 → d.l n < w.heap.size := fun n hn => (B.la n hn).hd.lt
  have hq : ∀ n, n < 2 → _ := fun n hn => (B.fq n hn).lt
  obtain ⟨x1, x2, x3⟩ := B.ix.lt
  obtain ⟨c', hc'⟩ : ∃ c' : Nat → Nat, c' = fun r => if w.heap.size ≤ r ∧ v'.ownBlock = some r then 2 + m else c r := ⟨_, rfl⟩
  have hold : ∀ q, q < w.heap.size → c' q = c q := fun q hq => by rw [hc']; simp only; rw [if_neg (by omega)]
  have hov : ∀ r, v'.ownBlock = some r → c' r = 2 + m := fun r hr => by
    rw [hc']
    simp only
    by_cases hs : w.heap.size ≤ r
    · rw [if_pos ⟨hs, hr⟩]
    · rw [if_neg (by omega)]
      rcases h.fresh with h1 | h1
      · exact B.cv m hm r (by rw [← h1]; exact hr)
      · exact absurd (h1 r hr) hs
  refine ⟨c', ⟨(O.same b B.lt (by rw [B.cb]; omega)).trans B.hd, ar_keep B.ar (O.same _ B.ar.lt (by rw [B.ca]; omega)), fun n hn => ?_,
    fun n hn => fq_keep (B.fq n hn) (O.same _ (hq n hn).1 (by rw [(B.cq n hn).1]; omega)) (O.same _ (hq n hn).2.1 (by rw [(B.cq n hn).2.1]; omega)) (O.same _ (hq n hn).2.2 (by rw [(B.cq n hn).2.2]; omega)),
    xq_keep B.ix (O.same _ x1 (by rw [B.cx.1]; omega)) (O.same _ x2 (by rw [B.cx.2.1]; omega)) (O.same _ x3 (by rw [B.cx.2.2]; omega)), (hold _ B.lt).trans B.cb, (hold _ B.ar.lt).trans B.ca, fun n hn => (hold _ (hl n hn)).trans (B.cl n hn),
    fun n hn => ⟨(hold _ (hq n hn).1).trans (B.cq n hn).1, (hold _ (hq n hn).2.1).trans (B.cq n hn).2.1, (hold _ (hq n hn).2.2).trans (B.cq n hn).2.2⟩, ⟨(hold _ x1).trans B.cx.1, (hold _ x2).trans B.cx.2.1, (hold _ x3).trans B.cx.2.2⟩, fun n hn r hr => ?_, fun r hr => ?_⟩, ⟨h.os, h.tape, h.output, h.size, hold, fun q hq h9 => O.same q hq (by omega)⟩⟩
  · show La w' (d.l n) (n : Int) (most : Int) (up d.v m v' n) (up d.ls m ls' n) (up d.u m u' n)
    by_cases e : n = m
    · subst e
      rw [up_same, up_same, up_same]
      exact hL
    · rw [up_ne _ _ e, up_ne _ _ e, up_ne _ _ e]
      exact la_keep (B.la n hn) (O.same _ (hl n hn) (by rw [B.cl n hn]; omega)) (fun r hr => O.same r ((B.la n hn).own_lt r hr).2 (by rw [B.cv n hn r hr]; omega))
  · have hr' : (up d.v m v' n).ownBlock = some r := hr
    by_cases e : n = m
    · subst e
      rw [up_same] at hr'
      exact hov r hr'
    · rw [up_ne _ _ e] at hr'
      exact (hold r ((B.la n hn).own_lt r hr').2).trans (B.cv n hn r hr')
  · rw [hc']
    simp only
    rw [if_neg]
    · exact B.out r (Nat.le_trans h.size hr)
    · rintro ⟨_, h2⟩
      have := (hL.own_lt r h2).2
      omega
end
end Bk
end Go.Proofs.YtacpjpkhmdcagaaGreat
