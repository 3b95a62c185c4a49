/- This text proves contracts of the document's arena (New, Take, Has, Drop, Get, Set, Used) and how it goes along with the program's. It has no conditions but those that they state. -/
import Derived.Test.YtodgeakkecaliaaArena
import Derived.Test.YtodgeakkecaliaaOwn
import Derived.Deep.RegionWith
namespace Go.Proofs.Ytodgeakkecaliaa
set_option linter.unusedVariables false
open Go.RowKit
namespace Are
set_option maxHeartbeats 400000
set_option maxRecDepth 10000
/-- The document's arena as data. -/
structure Rs where
  n : Nat
  o : Nat → Ord
  t : Nat → Bool
  d : List Nat
  next : Nat

/-! ### the plain law -/
def cnt (t : Nat → Bool) : Nat → Nat
  | 0 => 0
  | n + 1 => cnt t n + (t n).toNat
theorem cnt_le (t : Nat → Bool) (n : Nat) : cnt t n ≤ n := by
  induction n with
  | zero => simp [cnt]
  | succ n ih => simp only [cnt]; have := Bool.toNat_le (t n); omega
theorem cnt_out (t : Nat → Bool) (k : Nat) (b : Bool) (n : Nat) (h : n ≤ k) : cnt (fun i => if i = k then b else t i) n = cnt t n := by
  induction n with
  | zero => rfl
  | succ n ih =>
    have e : ¬ n = k := by omega
    simp only [cnt, ih (by omega), e, if_false]
theorem cnt_on (t : Nat → Bool) (k n : Nat) (h : k < n) (hk : t k = false) : cnt (fun i => if i = k then true else t i) n = cnt t n + 1 := by
  induction n with
  | zero => omega
  | succ n ih =>
    by_cases e : n = k
    · subst e
      rw [cnt, cnt_out _ _ _ _ (Nat.le_refl _), cnt, hk]
      simp
    · simp only [cnt, ih (by omega), e, if_false]
      omega
theorem cnt_off (t : Nat → Bool) (k n : Nat) (h : k < n) (hk : t k = true) : cnt (fun i => if i = k then false else t i) n + 1 = cnt t n := by
  induction n with
  | zero => omega
  | succ n ih =>
    by_cases e : n = k
    · subst e
      rw [cnt, cnt_out _ _ _ _ (Nat.le_refl _), cnt, hk]
      simp
    · have := ih (by omega)
      simp only [cnt, e, if_false]
      omega
def Chain (nx : Nat → Int) : Int → List Nat → Prop
  | f, [] => f = -1
  | f, x :: l => f = x ∧ Chain nx (nx x) l
theorem Chain.put {nx : Nat → Int} {k : Nat} {v : Int} : ∀ {l : List Nat} {f : Int}, Chain nx f l → k ∉ l → Chain (fun i => if i = k then v else nx i) f l
  | [], _, h, _ => h
  | x :: l, f, h, hk => by
    simp only [List.mem_cons, not_or] at hk
    refine ⟨h.1, ?_⟩
    have e : (fun i => if i = k then v else nx i) x = nx x := if_neg (fun e => hk.1 e.symm)
    rw [e]
    exact Chain.put h.2 hk.2
/-- The free slots, in the order in which they will be taken. -/
def Rs.free (r : Rs) : List Nat := r.d.reverse ++ (List.range' r.next (r.n - r.next))
structure Sim (s : St) (r : Rs) : Prop where
  size : s.size = r.n
  used : s.used = cnt r.t r.n
  tk : ∀ k, k < r.n → (s.nx k = -2 ↔ r.t k = true)
  o : ∀ k, k < r.n → r.t k = true → s.o k = r.o k
  chain : Chain s.nx s.free r.free
  mem : ∀ k, k ∈ r.free ↔ k < r.n ∧ r.t k = false
  nodup : r.free.Nodup
  next : r.next ≤ r.n

def Rs.take (r : Rs) (k : Nat) (x : Ord) (d : List Nat) (next : Nat) : Rs := ⟨r.n, fun i => if i = k then x else r.o i, fun i => if i = k then true else r.t i, d, next⟩
def Rs.drop (r : Rs) (k : Nat) : Rs := ⟨r.n, r.o, fun i => if i = k then false else r.t i, r.d ++ [k], r.next⟩
def Rs.set (r : Rs) (k : Nat) (x : Ord) : Rs := { r with o := fun i => if i = k then x else r.o i }
def Rs.has (r : Rs) (n : Int) : Bool := decide (0 ≤ n ∧ n < r.n) && r.t n.toNat

theorem Sim.has {s : St} {r : Rs} (h : Sim s r) (n : Int) : Are.has s n = r.has n := by
  unfold Are.has Rs.has
  rw [Bool.eq_iff_iff]
  simp only [decide_eq_true_eq, Bool.and_eq_true]
  rw [h.size]
  constructor
  · rintro ⟨h1, h2, h3⟩
    exact ⟨⟨h1, h2⟩, (h.tk _ (by omega)).1 h3⟩
  · rintro ⟨⟨h1, h2⟩, h3⟩
    exact ⟨h1, h2, (h.tk _ (by omega)).2 h3⟩
theorem Sim.take {s : St} {r : Rs} (h : Sim s r) {k : Nat} {l : List Nat} (hf : r.free = k :: l) (x : Ord) (d : List Nat) (next : Nat) (hl : d.reverse ++ List.range' next (r.n - next) = l) (hn : next ≤ r.n) :
    Sim (takeS s k x) (r.take k x d next) := by
  obtain ⟨h1, h2, h3, h4, h5, h6, h7, h8⟩ := h
  rw [hf] at h5 h6 h7
  have hk := (h6 k).1 (List.mem_cons_self ..)
  have hkl : k ∉ l := (List.nodup_cons.1 h7).1
  have hfr : (r.take k x d next).free = l := hl
  refine ⟨h1, ?_, fun i hi => ?_, fun i hi ht => ?_, ?_, fun i => ?_, ?_, hn⟩
  · show s.used + 1 = _
    show _ = ((cnt (fun i => if i = k then true else r.t i) r.n : Nat) : Int)
    rw [cnt_on _ _ _ hk.1 hk.2, h2]
    omega
  · show (if i = k then (-2 : Int) else s.nx i) = -2 ↔ (if i = k then true else r.t i) = true
    by_cases e : i = k
    · simp [e]
    · rw [if_neg e, if_neg e]; exact h3 i hi
  · show (if i = k then x else s.o i) = (if i = k then x else r.o i)
    by_cases e : i = k
    · simp [e]
    · rw [if_neg e, if_neg e]
      have ht' : (if i = k then true else r.t i) = true := ht
      rw [if_neg e] at ht'
      exact h4 i hi ht'
  · rw [hfr]
    exact h5.2.put hkl
  · rw [hfr]
    show i ∈ l ↔ i < r.n ∧ (if i = k then true else r.t i) = false
    by_cases e : i = k
    · subst e
      simp [hkl]
    · rw [if_neg e]
      have := h6 i
      simp only [List.mem_cons] at this
      rw [← this]
      constructor
      · exact fun h => .inr h
      · rintro (h | h)
        · exact absurd h e
        · exact h
  · rw [hfr]
    exact (List.nodup_cons.1 h7).2
theorem Sim.drop {s : St} {r : Rs} (h : Sim s r) {k : Nat} (hk : k < r.n) (ht : r.t k = true) : Sim (dropS s k) (r.drop k) := by
  obtain ⟨h1, h2, h3, h4, h5, h6, h7, h8⟩ := h
  have hfr : (r.drop k).free = k :: r.free := by
    show (r.d ++ [k]).reverse ++ List.range' r.next (r.n - r.next) = _
    simp [Rs.free]
  have hkl : k ∉ r.free := fun hm => by
    have := ((h6 k).1 hm).2
    rw [ht] at this
    cases this
  refine ⟨h1, ?_, fun i hi => ?_, fun i hi hti => ?_, ?_, fun i => ?_, ?_, h8⟩
  · show s.used - 1 = ((cnt (fun i => if i = k then false else r.t i) r.n : Nat) : Int)
    have := cnt_off r.t k r.n hk ht
    omega
  · show (if i = k then s.free else s.nx i) = -2 ↔ (if i = k then false else r.t i) = true
    by_cases e : i = k
    · rw [if_pos e, if_pos e]
      have : s.free ≠ -2 := by
        revert h5
        cases r.free with
        | nil => intro h; rw [h]; decide
        | cons x l => intro h; rw [h.1]; omega
      simp [this]
    · rw [if_neg e, if_neg e]; exact h3 i hi
  · have ht' : (if i = k then false else r.t i) = true := hti
    show (if i = k then ord0 else s.o i) = r.o i
    by_cases e : i = k
    · rw [if_pos e] at ht'
      cases ht'
    · rw [if_neg e] at ht' ⊢
      exact h4 i hi ht'
  · rw [hfr]
    refine ⟨rfl, ?_⟩
    show Chain (fun i => if i = k then s.free else s.nx i) (if k = k then s.free else s.nx k) r.free
    rw [if_pos rfl]
    exact h5.put hkl
  · rw [hfr]
    show i ∈ k :: r.free ↔ i < r.n ∧ (if i = k then false else r.t i) = false
    by_cases e : i = k
    · subst e
      simp [hk]
    · rw [if_neg e, ← h6 i]
      simp [e]
  · rw [hfr]
    exact List.nodup_cons.2 ⟨hkl, h7⟩
theorem Sim.set {s : St} {r : Rs} (h : Sim s r) {k : Nat} (x : Ord) : Sim (setS s k x) (r.set k x) := by
  obtain ⟨h1, h2, h3, h4, h5, h6, h7, h8⟩ := h
  refine ⟨h1, h2, h3, fun i hi ht => ?_, h5, h6, h7, h8⟩
  show (if i = k then x else s.o i) = (if i = k then x else r.o i)
  by_cases e : i = k
  · simp [e]
  · rw [if_neg e, if_neg e]
    exact h4 i hi ht

theorem Ar.butL {w w' : World} {g : Nat} {s : St} {l : List Nat} (h : Ar w g s) (hb : ButL l w.heap.size w w') (hn : g ∉ l) : Ar w' g s := by
  obtain ⟨cs, h1, h2⟩ := h
  exact ⟨cs, Blk.butL h1 hb hn, h2⟩

/-! ### the document's arena in memory -/
def OC (r : Rs) (cs : Array Value) : Prop := cs.size = r.n * 7 ∧ ∀ k, k < r.n → ∀ j, j < 7 → cs[k * 7 + j]? = (r.o k).arr[j]?
def TC (r : Rs) (cs : Array Value) : Prop := cs.size = r.n ∧ ∀ k, k < r.n → cs[k]? = some (.bool (r.t k))
def natC (n : Nat) : List Value := [.int .i64 n]
/-- Its four fields. -/
def rfArr (bo bt : Nat) (r : Rs) (A : Option Addr) (cap : Nat) : Array Value :=
  #[.slice (some ⟨bo, 0, none⟩) r.n r.n, .slice (some ⟨bt, 0, none⟩) r.n r.n, .slice A r.d.length cap, .int .i64 r.next]
@[simp] theorem rfArr_size (bo bt : Nat) (r : Rs) (A : Option Addr) (cap : Nat) : (rfArr bo bt r A cap).size = 4 := rfl
@[go_sem] theorem rfArr_0 (bo bt : Nat) (r : Rs) (A : Option Addr) (cap : Nat) : (rfArr bo bt r A cap)[0]? = some (.slice (some ⟨bo, 0, none⟩) r.n r.n) := rfl
@[go_sem] theorem rfArr_1 (bo bt : Nat) (r : Rs) (A : Option Addr) (cap : Nat) : (rfArr bo bt r A cap)[1]? = some (.slice (some ⟨bt, 0, none⟩) r.n r.n) := rfl
@[go_sem] theorem rfArr_2 (bo bt : Nat) (r : Rs) (A : Option Addr) (cap : Nat) : (rfArr bo bt r A cap)[2]? = some (.slice A r.d.length cap) := rfl
@[go_sem] theorem rfArr_3 (bo bt : Nat) (r : Rs) (A : Option Addr) (cap : Nat) : (rfArr bo bt r A cap)[3]? = some (.int .i64 r.next) := rfl
structure Rf (w : World) (h bo bt : Nat) (r : Rs) (A : Option Addr) (cap : Nat) (co ct : Array Value) : Prop where
  hd : Blk w h 51 (rfArr bo bt r A cap)
  fbo : Blk w bo 32 co
  fbt : Blk w bt 4 ct
  oc : OC r co
  tc : TC r ct
  rd : Rd w 1 A (r.d.map natC)
  hcap : r.d.length ≤ cap
  far : ∀ a, A = some a → a.block ≠ h ∧ a.block ≠ bo ∧ a.block ≠ bt ∧ a.block < w.heap.size
  nil : A = none → cap = 0
  ne : h ≠ bo ∧ h ≠ bt ∧ bo ≠ bt
  next : r.next ≤ r.n
  n : r.n ≤ 500
  dn : r.d.length ≤ 500
theorem Rf.keep {w w' : World} {h bo bt : Nat} {r : Rs} {A : Option Addr} {cap : Nat} {co ct : Array Value} (f : Rf w h bo bt r A cap co ct) (hz : w.heap.size ≤ w'.heap.size)
    (hk : ∀ g, g = h ∨ g = bo ∨ g = bt ∨ (∃ a, A = some a ∧ g = a.block) → w'.heap[g]? = w.heap[g]?) : Rf w' h bo bt r A cap co ct :=
  ⟨(hk h (.inl rfl)).trans f.hd, (hk bo (.inr (.inl rfl))).trans f.fbo, (hk bt (.inr (.inr (.inl rfl)))).trans f.fbt, f.oc, f.tc,
    f.rd.keep (fun a e => hk _ (.inr (.inr (.inr ⟨a, e, rfl⟩)))), f.hcap, fun a e => by have := f.far a e; omega, f.nil, f.ne, f.next, f.n, f.dn⟩
theorem Rf.ext {w w' : World} {h bo bt : Nat} {r : Rs} {A : Option Addr} {cap : Nat} {co ct : Array Value} (f : Rf w h bo bt r A cap co ct) (hb : Below w.heap.size w w') : Rf w' h bo bt r A cap co ct :=
  f.keep hb.size (fun g hg => hb.block g (by
    rcases hg with rfl | rfl | rfl | ⟨a, e, rfl⟩
    · exact f.hd.lt
    · exact f.fbo.lt
    · exact f.fbt.lt
    · exact (f.far a e).2.2.2))
def rs0 (n : Nat) : Rs := ⟨n, fun _ => ord0, fun _ => false, [], 0⟩
theorem sim0 (n : Nat) (hn : 1 ≤ n) : Sim (new0 n) (rs0 n) := by
  have hfr : (rs0 n).free = List.range' 0 n := rfl
  have hc : ∀ m k, k + m = n → 0 < m → Chain (new0 n).nx k (List.range' k m) := by
    intro m
    induction m with
    | zero => intro k _ h; omega
    | succ m ih =>
      intro k hk _
      rw [List.range'_succ]
      refine ⟨rfl, ?_⟩
      by_cases e : m = 0
      · subst e
        show (if k = n - 1 then (-1 : Int) else _) = -1
        rw [if_pos (by omega)]
      · have h1 : (new0 n).nx k = ((k + 1 : Nat) : Int) := by
          show (if k = n - 1 then (-1 : Int) else if k < n then (k : Int) + 1 else 0) = _
          rw [if_neg (by omega), if_pos (by omega)]
          omega
        rw [h1]
        exact ih (k + 1) (by omega) (by omega)
  have hcnt : ∀ m, cnt (fun _ => false) m = 0 := by
    intro m
    induction m with
    | zero => rfl
    | succ m ih => simp [cnt, ih]
  refine Sim.mk rfl ?_ (fun k hk => ?_) (fun k hk ht => by cases ht) ?_ (fun k => ?_) ?_ (Nat.zero_le _)
  · show (0 : Int) = ((cnt (fun _ => false) n : Nat) : Int)
    rw [hcnt]
    rfl
  · show (if k = n - 1 then (-1 : Int) else if k < n then (k : Int) + 1 else 0) = -2 ↔ false = true
    split
    · simp
    · split
      · simp; omega
      · simp
  · rw [hfr]
    exact hc n 0 (by omega) hn
  · rw [hfr]
    show _ ↔ k < n ∧ false = false
    simp [List.mem_range']
  · rw [hfr]
    exact List.nodup_range'

/-! ### the walks -/
theorem Rf.c {w : World} {h bo bt : Nat} {r : Rs} {A : Option Addr} {cap : Nat} {co ct : Array Value} (f : Rf w h bo bt r A cap co ct) :
    w.cell? ⟨h, 0, none⟩ = some (.slice (some ⟨bo, 0, none⟩) r.n r.n) ∧ w.cell? ⟨h, 1, none⟩ = some (.slice (some ⟨bt, 0, none⟩) r.n r.n) ∧ w.cell? ⟨h, 2, none⟩ = some (.slice A r.d.length cap) ∧ w.cell? ⟨h, 3, none⟩ = some (.int .i64 r.next) :=
  ⟨f.hd.cell 0, f.hd.cell 1, f.hd.cell 2, f.hd.cell 3⟩
theorem Rf.ct {w : World} {h bo bt : Nat} {r : Rs} {A : Option Addr} {cap : Nat} {co ct : Array Value} (f : Rf w h bo bt r A cap co ct) {k : Nat} (hk : k < r.n) : w.cell? ⟨bt, k, none⟩ = some (.bool (r.t k)) := (f.fbt.cell k).trans (f.tc.2 k hk)
theorem has_no {r : Rs} {n : Int} (h : n < 0 ∨ (r.n : Int) ≤ n) : r.has n = false := by
  unfold Rs.has
  rw [decide_eq_false (by omega)]
  rfl
theorem has_in {r : Rs} {n : Nat} (h : n < r.n) : r.has n = r.t n := by
  unfold Rs.has
  rw [decide_eq_true (by omega)]
  simp
theorem rhas_any (h bo bt : Nat) (r : Rs) (A : Option Addr) (cap : Nat) (co ct : Array Value) (n : Int) (w : World) (f : Rf w h bo bt r A cap co ct) :
    Calls Try.prog 21 #[.pointer (some ⟨h, 0, none⟩), .int .i64 n] w fun e w' => e = .returned (.bool (r.has n)) ∧ w = w' := by
  obtain ⟨c0, c1, _, _⟩ := f.c
  have hn5 := f.n
  by_cases h0 : n < 0
  · rw [has_no (.inl h0)]
    have e1 : decide (0 ≤ n) = false := decide_eq_false (by omega)
    go_enter Try.func21, Try.ntmps21
    go_wp2_with fail
    go_ret
    exact ⟨rfl, rfl⟩
  · by_cases h1 : (r.n : Int) ≤ n
    · rw [has_no (.inr h1)]
      have e1 : decide (0 ≤ n) = true := decide_eq_true (by omega)
      have e2 : decide (n < (r.n : Int)) = false := decide_eq_false (by omega)
      go_enter Try.func21, Try.ntmps21
      go_wp2_with fail
      go_ret
      exact ⟨rfl, rfl⟩
    · obtain ⟨n, rfl⟩ : ∃ k : Nat, n = k := ⟨n.toNat, by omega⟩
      have hlt : n < r.n := by omega
      rw [has_in hlt]
      have c4 := f.ct hlt
      have e2 : (n : Int) < (r.n : Int) := by omega
      go_enter Try.func21, Try.ntmps21
      go_wp2_with fail
      go_ret
      exact ⟨rfl, rfl⟩
theorem rused_any (h bo bt : Nat) (r : Rs) (A : Option Addr) (cap : Nat) (co ct : Array Value) (w : World) (f : Rf w h bo bt r A cap co ct) :
    Calls Try.prog 18 #[.pointer (some ⟨h, 0, none⟩)] w fun e w' => e = .returned (.int .i64 (cnt r.t r.n)) ∧ w = w' := by
  obtain ⟨_, c1, _, _⟩ := f.c
  have hn5 := f.n
  go_enter Try.func18, Try.ntmps18
  go_wp2
  go_loop [3, 4] (fun a i => ∃ k : Nat, k ≤ r.n ∧ i = .int .i64 k ∧ a = .int .i64 (cnt r.t k)) (fun _ i => r.n - (intOf i).toNat)
  case atStart => exact ⟨0, Nat.zero_le _, rfl, rfl⟩
  case round =>
    obtain ⟨k, hk, rfl, rfl⟩ := hrel
    have hle := cnt_le r.t k
    by_cases hlt : k < r.n
    · have c4 := f.ct hlt
      cases ht : r.t k with
      | true =>
        have HC : Hid (cnt r.t (k + 1) = cnt r.t k + 1) := by show cnt r.t (k + 1) = _; simp [cnt, ht]
        rw [ht] at c4
        clear ht
        go_wp2_with fail
        go_round
        case rel => exact ⟨k + 1, by omega, by go_num, by rw [HC.out]; go_num⟩
        case measure => simp [intOf]; omega
      | false =>
        have HC : Hid (cnt r.t (k + 1) = cnt r.t k) := by show cnt r.t (k + 1) = _; simp [cnt, ht]
        rw [ht] at c4
        clear ht
        go_wp2_with fail
        go_round
        case rel => exact ⟨k + 1, by omega, by go_num, by rw [HC.out]⟩
        case measure => simp [intOf]; omega
    · have hk' : k = r.n := by omega
      go_wp2_with fail
      go_ret
      exact ⟨rfl, rfl⟩
theorem rget_no (h bo bt : Nat) (r : Rs) (A : Option Addr) (cap : Nat) (co ct : Array Value) (n : Int) (w : World) (f : Rf w h bo bt r A cap co ct) (hx : r.has n = false) :
    Calls Try.prog 40 #[.pointer (some ⟨h, 0, none⟩), .int .i64 n] w fun e w' => e = .returned (.tuple #[.agg ord0.arr, .bool false]) ∧ Below w.heap.size w w' := by
  have HX := Lib.hid hx
  clear hx
  go_enter Try.func40, Try.ntmps40
  go_wp2_with (first | (go_at_call 21; refine (rhas_any h bo bt r A cap co ct _ _ (f.ext (by (repeat (first | with_reducible exact Below.refl _ _ | (with_reducible assumption) | (with_reducible refine below_alloc ?_ _) | (with_reducible refine below_ext (w1 := ?_) ?_ ?_; rotate_left 2; (with_reducible assumption)) | (with_reducible refine Below.setCell ?_ ?_ _; rotate_left; ((try simp) <;> omega)) | (with_reducible refine Below.drew ?_) | (with_reducible refine below_drewN ?_ _) | fail))))).mono ?_; rintro e w' ⟨rfl, rfl⟩; rw [HX.out]) | fail)
  refine bodyPost_ret (v := .tuple #[.agg ord0.arr, .bool false]) (by simp [results, Try.results40, go_sem]; first | done | rfl | exact ⟨rfl, rfl⟩) rfl ⟨rfl, by (repeat (first | with_reducible exact Below.refl _ _ | (with_reducible assumption) | (with_reducible refine below_alloc ?_ _) | (with_reducible refine below_ext (w1 := ?_) ?_ ?_; rotate_left 2; (with_reducible assumption)) | (with_reducible refine Below.setCell ?_ ?_ _; rotate_left; ((try simp) <;> omega)) | (with_reducible refine Below.drew ?_) | (with_reducible refine below_drewN ?_ _) | fail))⟩
theorem Rf.range {w : World} {h bo bt : Nat} {r : Rs} {A : Option Addr} {cap : Nat} {co ct : Array Value} (f : Rf w h bo bt r A cap co ct) {k : Nat} (hk : k < r.n) : w.rangeAt bo (k * 7) (r.o k).cells := fun j v hv => by
  have hj : j < 7 := (List.getElem?_eq_some_iff.1 hv).1
  rw [f.fbo.cell, f.oc.2 k hk j hj, ← hv]
  simp [Ord.arr]
theorem rget_yes (h bo bt : Nat) (r : Rs) (A : Option Addr) (cap : Nat) (co ct : Array Value) (n : Nat) (w : World) (f : Rf w h bo bt r A cap co ct) (hn : n < r.n) (hx : r.t n = true) :
    Calls Try.prog 40 #[.pointer (some ⟨h, 0, none⟩), .int .i64 n] w fun e w' => e = .returned (.tuple #[.agg (r.o n).arr, .bool true]) ∧ Below w.heap.size w w' := by
  have HX : Hid (r.has n = true) := by show r.has n = true; rw [has_in hn]; exact hx
  clear hx
  have hn5 := f.n
  have hR : Blk (w.alloc (.cells ord0.arr 32)) w.heap.size 32 ord0.arr := Blk.new _ _ _ _ rfl
  have hb1 : Below w.heap.size w (w.alloc (.cells ord0.arr 32)) := by (repeat (first | with_reducible exact Below.refl _ _ | (with_reducible assumption) | (with_reducible refine below_alloc ?_ _) | (with_reducible refine below_ext (w1 := ?_) ?_ ?_; rotate_left 2; (with_reducible assumption)) | (with_reducible refine Below.setCell ?_ ?_ _; rotate_left; ((try simp) <;> omega)) | (with_reducible refine Below.drew ?_) | (with_reducible refine below_drewN ?_ _) | fail))
  have f1 := f.ext hb1
  obtain ⟨c0, c1, _, _⟩ := f1.c
  have hrg := f1.range hn
  have e2 : (n : Int) < (r.n : Int) := by omega
  go_enter Try.func40, Try.ntmps40
  go_wp2_with (first | (go_at_call 21; refine (rhas_any h bo bt r A cap co ct _ _ f1).mono ?_; rintro e w' ⟨rfl, rfl⟩; rw [HX.out]) | (refine wpList_load_mid (by rfl) _ _ (by rfl) _ _ (by rfl) _ _ hrg Try.underlying32 rfl (by kernel_rfl) ?_) | (refine wpList_store_blk (by rfl) 32 _ _ (by rfl) _ _ (by rfl) (by rfl) _ _ hR (by kernel_rfl) (by rfl) ?_ ?_; (next => first | (simp [Value.oneCell']; done) | exact Are.ordArr_one _); intro w2 hR2 hU2) | fail)
  have hcR : ∀ i, w2.cell? ⟨w.heap.size, i, none⟩ = (r.o n).arr[i]? := fun i => hR2.cell i
  refine bodyPost_ret (v := .tuple #[.agg (r.o n).arr, .bool true]) (by simp [results, Try.results40, go_sem, hcR]; first | done | rfl) rfl ⟨rfl, below_upd (by (repeat (first | with_reducible exact Below.refl _ _ | (with_reducible assumption) | (with_reducible refine below_alloc ?_ _) | (with_reducible refine below_ext (w1 := ?_) ?_ ?_; rotate_left 2; (with_reducible assumption)) | (with_reducible refine Below.setCell ?_ ?_ _; rotate_left; ((try simp) <;> omega)) | (with_reducible refine Below.drew ?_) | (with_reducible refine below_drewN ?_ _) | fail))) (Nat.le_refl _) hU2⟩
theorem OC.set {r : Rs} {co : Array Value} (h : OC r co) {k : Nat} (hk : k < r.n) (x : Ord) (t : Nat → Bool) (d : List Nat) (next : Nat) : OC ⟨r.n, fun i => if i = k then x else r.o i, t, d, next⟩ (putC co (k * 7) x.arr.toList) := by
  have hl : x.arr.toList.length = 7 := rfl
  obtain ⟨h1, h2⟩ := h
  refine ⟨by rw [put_size]; exact h1, fun i hi j hj => ?_⟩
  by_cases e : i = k
  · subst e
    rw [put_in _ _ _ _ (by omega) (by omega)]
    simp
  · rw [put_out _ _ _ _ (by omega)]
    simpa [e] using h2 i hi j hj
theorem TC.set {r : Rs} {ct : Array Value} (h : TC r ct) {k : Nat} (hk : k < r.n) (b : Bool) (o : Nat → Ord) (d : List Nat) (next : Nat) : TC ⟨r.n, o, fun i => if i = k then b else r.t i, d, next⟩ (ct.setIfInBounds k (.bool b)) := by
  obtain ⟨h1, h2⟩ := h
  refine ⟨by simp [h1], fun i hi => ?_⟩
  by_cases e : i = k
  · subst e
    rw [Array.getElem?_setIfInBounds_self_of_lt (by omega)]
    simp
  · rw [Array.getElem?_setIfInBounds_ne (fun h => e h.symm), h2 i hi]
    simp [e]
theorem rset_no (h bo bt : Nat) (r : Rs) (A : Option Addr) (cap : Nat) (co ct : Array Value) (n : Int) (x : Ord) (w : World) (f : Rf w h bo bt r A cap co ct) (hx : r.has n = false) :
    Calls Try.prog 39 #[.pointer (some ⟨h, 0, none⟩), .int .i64 n, .agg x.arr] w fun e w' => e = .returned (.bool false) ∧ Below w.heap.size w w' := by
  have HX := Lib.hid hx
  clear hx
  go_enter Try.func39, Try.ntmps39
  go_wp2_with (first | (go_at_call 21; refine (rhas_any h bo bt r A cap co ct _ _ (f.ext (by (repeat (first | with_reducible exact Below.refl _ _ | (with_reducible assumption) | (with_reducible refine below_alloc ?_ _) | (with_reducible refine below_ext (w1 := ?_) ?_ ?_; rotate_left 2; (with_reducible assumption)) | (with_reducible refine Below.setCell ?_ ?_ _; rotate_left; ((try simp) <;> omega)) | (with_reducible refine Below.drew ?_) | (with_reducible refine below_drewN ?_ _) | fail))))).mono ?_; rintro e w' ⟨rfl, rfl⟩; rw [HX.out]) | fail)
  go_ret
  exact ⟨rfl, by (repeat (first | with_reducible exact Below.refl _ _ | (with_reducible assumption) | (with_reducible refine below_alloc ?_ _) | (with_reducible refine below_ext (w1 := ?_) ?_ ?_; rotate_left 2; (with_reducible assumption)) | (with_reducible refine Below.setCell ?_ ?_ _; rotate_left; ((try simp) <;> omega)) | (with_reducible refine Below.drew ?_) | (with_reducible refine below_drewN ?_ _) | fail))⟩
theorem rset_yes (h bo bt : Nat) (r : Rs) (A : Option Addr) (cap : Nat) (co ct : Array Value) (n : Nat) (x : Ord) (w : World) (f : Rf w h bo bt r A cap co ct) (hn : n < r.n) (hx : r.t n = true) :
    Calls Try.prog 39 #[.pointer (some ⟨h, 0, none⟩), .int .i64 n, .agg x.arr] w fun e w' => e = .returned (.bool true) ∧ (∃ co' ct', Rf w' h bo bt (r.set n x) A cap co' ct') ∧ ButL [h, bo, bt] w.heap.size w w' := by
  have HX : Hid (r.has n = true) := by show r.has n = true; rw [has_in hn]; exact hx
  clear hx
  have hn5 := f.n
  have hb1 : Below w.heap.size w (w.alloc (.cells x.arr 32)) := by (repeat (first | with_reducible exact Below.refl _ _ | (with_reducible assumption) | (with_reducible refine below_alloc ?_ _) | (with_reducible refine below_ext (w1 := ?_) ?_ ?_; rotate_left 2; (with_reducible assumption)) | (with_reducible refine Below.setCell ?_ ?_ _; rotate_left; ((try simp) <;> omega)) | (with_reducible refine Below.drew ?_) | (with_reducible refine below_drewN ?_ _) | fail))
  have f1 := f.ext hb1
  have hO : Blk (w.alloc (.cells x.arr 32)) w.heap.size 32 x.arr := Blk.new _ _ _ _ rfl
  obtain ⟨c0, c1, _, _⟩ := f1.c
  have hH := f1.hd
  have hBo := f1.fbo
  have hoc := f1.oc.1
  have e2 : (n : Int) < (r.n : Int) := by omega
  have e3 : (0 : Int) ≤ (n : Int) := by omega
  go_enter Try.func39, Try.ntmps39
  go_wp2_with (first | (go_at_call 21; refine (rhas_any h bo bt r A cap co ct _ _ f1).mono ?_; rintro e w' ⟨rfl, rfl⟩; rw [HX.out]) | fail)
  refine wp_region_below_tail 7 (by kernel_rfl) (by kernel_rfl) ?_
  simp only [List.take_succ_cons, List.take_zero, List.drop_succ_cons, List.drop_zero]
  repeat (first | go_big_quiet_skip | (go_big_quiet_want; go_big_quiet_op; go_big_quiet_on) | (refine q_load_blk (by rfl) 32 _ (by rfl) ?_ (.pointer (some ⟨_, 0, none⟩)) (by rfl) ?_ _ (fun _ h => h) Try.underlying32 rfl ?_ ?_; rotate_left; (next => (repeat (first | (with_reducible refine BlkAt.new _ _ _ _ ?_; ((try simp) <;> omega)) | (with_reducible assumption) | (with_reducible refine Blk.at (t := ?_) ?_; rotate_left; with_reducible assumption) | with_reducible refine BlkAt.alloc ?_ _ | with_reducible refine BlkAt.drew ?_ | (with_reducible refine BlkAt.setSame ?_ _ _) | (with_reducible refine BlkAt.setCell ?_ ?_ _; rotate_left; ((try simp) <;> omega)) | (with_reducible refine BlkAt.ext (w := ?_) ?_ ?_; rotate_left 2; (with_reducible assumption)) | fail))); (next => kernel_rfl); (try simp only [Act.put, List.setIfInBounds_toArray, List.set_cons_zero, List.set_cons_succ])) | (refine q_load_fld (by rfl) _ _ (by rfl) (fun _ h => h) _ _ (by rfl) ?_ ?_ ?_ ?_ ?_ ?_; rotate_left; (next => (repeat (first | (with_reducible refine BlkAt.new _ _ _ _ ?_; ((try simp) <;> omega)) | (with_reducible assumption) | (with_reducible refine Blk.at (t := ?_) ?_; rotate_left; with_reducible assumption) | with_reducible refine BlkAt.alloc ?_ _ | with_reducible refine BlkAt.drew ?_ | (with_reducible refine BlkAt.setSame ?_ _ _) | (with_reducible refine BlkAt.setCell ?_ ?_ _; rotate_left; ((try simp) <;> omega)) | (with_reducible refine BlkAt.ext (w := ?_) ?_ ?_; rotate_left 2; (with_reducible assumption)) | fail))); rotate_left; (next => first | (simp only [go_sem]; rfl) | rfl); (next => kernel_rfl); (try simp only [Act.put, List.setIfInBounds_toArray, List.set_cons_zero, List.set_cons_succ])) | (refine q_rem (by rfl) _ _ _ _ (by rfl) _ _ (by rfl) (by rfl) (by kernel_rfl) (by kernel_rfl) ?_ ?_; (next => omega); (try simp only [Act.put, List.setIfInBounds_toArray, List.set_cons_zero, List.set_cons_succ])) | (refine q_step_ex (by rfl) ?_; apply Exists.intro; refine ⟨fun W hW => ?_, ?_⟩; (next => (have hWc := fun (b o : Nat) (h : b < _) => (Ext.out hW).cell (p := ⟨b, o, none⟩) h); go_simp; first | rfl | fail); (try simp only [Act.put, List.setIfInBounds_toArray, List.set_cons_zero, List.set_cons_succ])) | fail)
  refine wpQuiet_nil ?_
  intro wq hbq
  have hBo2 := hBo.ext hbq
  (refine wpList_store_put (by rfl) _ _ _ (by rfl) _ _ _ (by rfl) (by rfl) _ _ hBo2 ?_ ?_ ?_ ?_; (next => kernel_rfl); (next => rw [ordArr_size]; omega); (next => first | exact slotArr_one _ _ | exact ordArr_one _ | (simp [Value.oneCell']; done)); intro w3 hBo3 hU3)
  go_wp2_with fail
  go_ret
  have f2 := f1.ext hbq
  refine ⟨rfl, ⟨_, ct, ⟨f2.hd.upd f.ne.1 hU3, hBo3, f2.fbt.upd (Ne.symm f.ne.2.2) hU3, OC.set f.oc hn x r.t r.d r.next, f.tc, f2.rd.upd (fun a e => (f.far a e).2.1) hU3, f.hcap, fun a e => by have := f2.far a e; rw [hU3.size]; exact this, f.nil, f.ne, f.next, f.n, f.dn⟩⟩, ((ButL.of_below hb1).ext hb1.size hbq).upd (by simp) hU3⟩
theorem rdrop_no (h bo bt : Nat) (r : Rs) (A : Option Addr) (cap : Nat) (co ct : Array Value) (n : Int) (w : World) (f : Rf w h bo bt r A cap co ct) (hx : r.has n = false) :
    Calls Try.prog 38 #[.pointer (some ⟨h, 0, none⟩), .int .i64 n] w fun e w' => e = .returned (.bool false) ∧ Below w.heap.size w w' := by
  have HX := Lib.hid hx
  clear hx
  go_enter Try.func38, Try.ntmps38
  go_wp2_with (first | (go_at_call 21; refine (rhas_any h bo bt r A cap co ct _ _ f).mono ?_; rintro e w' ⟨rfl, rfl⟩; rw [HX.out]) | fail)
  go_ret
  exact ⟨rfl, by (repeat (first | with_reducible exact Below.refl _ _ | (with_reducible assumption) | (with_reducible refine below_alloc ?_ _) | (with_reducible refine below_ext (w1 := ?_) ?_ ?_; rotate_left 2; (with_reducible assumption)) | (with_reducible refine Below.setCell ?_ ?_ _; rotate_left; ((try simp) <;> omega)) | (with_reducible refine Below.drew ?_) | (with_reducible refine below_drewN ?_ _) | fail))⟩
theorem natC_len (l : List Nat) : ∀ r ∈ l.map natC, r.length = 1 ∧ ∀ u ∈ r, u.oneCell' = true := by
  intro r hr
  obtain ⟨x, _, rfl⟩ := List.mem_map.1 hr
  exact ⟨rfl, fun u hu => by simp [natC] at hu; subst hu; rfl⟩
theorem natC_flat (l : List Nat) : (l.map natC).flatten.length = l.length := by
  rw [flat_len (k := 1) _ (fun r hr => (natC_len l r hr).1)]
  simp
theorem rdrop_yes (h bo bt : Nat) (r : Rs) (A : Option Addr) (cap : Nat) (co ct : Array Value) (n : Nat) (w : World) (f : Rf w h bo bt r A cap co ct) (hn : n < r.n) (hx : r.t n = true) (hdn : r.d.length < 500) :
    Calls Try.prog 38 #[.pointer (some ⟨h, 0, none⟩), .int .i64 n] w fun e w' => e = .returned (.bool true) ∧ (∃ A' cap' co' ct', Rf w' h bo bt (r.drop n) A' cap' co' ct' ∧ ∀ a, A' = some a → w.heap.size ≤ a.block) ∧ ButL [h, bo, bt] w.heap.size w w' := by
  have HX : Hid (r.has n = true) := by show r.has n = true; rw [has_in hn]; exact hx
  clear hx
  have hn5 := f.n
  obtain ⟨c0, c1, c2, _⟩ := f.c
  have hBt := f.fbt
  have htc := f.tc.1
  have e2 : (n : Int) < (r.n : Int) := by omega
  have hne := f.ne
  have hcap := f.hcap
  have hlts : h < w.heap.size ∧ bo < w.heap.size ∧ bt < w.heap.size := ⟨f.hd.lt, f.fbo.lt, f.fbt.lt⟩
  go_enter Try.func38, Try.ntmps38
  go_wp2_with (first | (go_at_call 21; refine (rhas_any h bo bt r A cap co ct _ _ f).mono ?_; rintro e w' ⟨rfl, rfl⟩; rw [HX.out]) | ((refine wpList_store_fld (by rfl) _ _ _ (by rfl) _ _ (by rfl) _ (by rfl) _ _ hBt ?_ ?_ (by rfl) (by rfl) ?_; (next => first | omega | ((try simp) <;> omega)); (next => kernel_rfl); intro w2 hBt2 hU2); have hH2 := f.hd.upd hne.2.1 hU2; have hrd2 := f.rd.upd (fun a e => (f.far a e).2.2.1) hU2; have hz2 := Lib.hid hU2.size) | (refine wpList_build0 (by rfl) 28 3 (by rfl) 1 Try.underlying28 (by kernel_rfl) w.heap.size ?_ ?_; (next => have := hz2.out; omega); intro w3 hown3 hb3 hz3'; have hz3 := Lib.hid hz3'; clear hz3'; have hH3 := hH2.ext hb3; have hrd3 := hrd2.below hb3; have c3 : w3.cell? ⟨h, 2, none⟩ = some (.slice A r.d.length cap) := hH3.cell 2) | (at_builtin; (refine wpList_append_rd (by rfl) _ _ _ (by rfl) w.heap.size 3 (.int .i64 0) 1 8 Try.underlying28 (by kernel_rfl) ⟨rfl, by decide⟩ (.slice (some ⟨w2.heap.size, 0, none⟩) 0 0) 0 [] (by rfl) hown3 A r.d.length cap (r.d.map natC) (by rfl) hrd3 ⟨List.length_map _, natC_len _⟩ f.nil ?_ ?_ ?_); (next => unfold maxLen; omega); (next => have := hz2.out; have := hz3.out; omega); intro v4 w4 hown4 hb4 hz4 hk4) | (refine wpList_build1 (by rfl) 28 3 _ (by rfl) (.int .i64 0) 1 Try.underlying28 (by kernel_rfl) ⟨by decide, by decide⟩ (.int .i64 n) (by rfl) #[.int .i64 n] (by kernel_rfl) ?_; intro w5 hB5 hb5 hz5'; have hz5 := Lib.hid hz5'; clear hz5'; have hown5 := owns_ext hown4 hb5) | (at_builtin; (refine wpList_append_rd (by rfl) _ _ _ (by rfl) w.heap.size 3 (.int .i64 0) 1 8 Try.underlying28 (by kernel_rfl) ⟨rfl, by decide⟩ v4 (0 + r.d.length) _ (by rfl) hown5 (some ⟨w4.heap.size, 0, none⟩) 1 1 [natC n] (by rfl) ?_ ⟨rfl, by simp [natC, Value.oneCell']⟩ (by simp) ?_ ?_ ?_); (next => exact rd_own hB5 (by simp [natC]) (n := 1) (by simp [natC])); (next => unfold maxLen; omega); (next => have := hz2.out; have := hz3.out; have := hz5.out; omega); intro v6 w6 hown6 hb6 hz6 hk6; obtain ⟨g6, cap6, cur6, rfl, hg6, hB6, hc6, hm6, hs6, ht6⟩ := owns_some hown6 (by omega); have hb36 : Below w.heap.size w2 w6 := (((hb3.mono (by have := hz2.out; omega)).trans hb4).trans (hb5.mono (by have := hz2.out; have := hz3.out; omega))).trans hb6; have hH6 : Blk w6 h 51 (rfArr bo bt r A cap) := (hb36.block h hlts.1).trans hH2) | (refine wpList_store_fld (by rfl) _ _ _ (by rfl) _ _ (by rfl) _ (by rfl) _ _ hH6 ?_ ?_ (by rfl) (by rfl) ?_; (next => first | omega | ((try simp) <;> omega)); (next => kernel_rfl); intro w7 hH7 hU7) | fail)
  go_ret
  have e8 : (r.drop n).d.length = r.d.length + 1 := by simp [Rs.drop]
  have hH8 : Blk w7 h 51 (rfArr bo bt (r.drop n) (some ⟨g6, 0, none⟩) cap6) := by
    unfold rfArr
    rw [e8]
    exact hH7
  have hz6' := hb36.size
  have hz7 := hU7.size
  have hzz := hz2.out
  have hB7 := hB6.upd (g' := h) (by omega) hU7
  refine ⟨rfl, ⟨_, cap6, co, _, ⟨hH8, (show Blk w6 bo _ _ from (hb36.block bo hlts.2.1).trans (f.fbo.upd hne.2.2 hU2)).upd (Ne.symm hne.1) hU7, (show Blk w6 bt _ _ from (hb36.block bt hlts.2.2).trans hBt2).upd (Ne.symm hne.2.1) hU7, f.oc, TC.set f.tc hn false r.o _ r.next, rd_own hB7 (fun x hx => (natC_len _ x hx).1) (n := 0 + r.d.length + 1) (by rw [ht6]; simp [Rs.drop]), by rw [e8]; omega, fun a e => ?_, by simp, hne, f.next, f.n, by rw [e8]; omega⟩, fun a e => ?_⟩, ?_⟩
  · injection e with e
    subst e
    have := hB7.lt
    exact ⟨by show g6 ≠ h; omega, by show g6 ≠ bo; omega, by show g6 ≠ bt; omega, this⟩
  · injection e with e
    subst e
    exact hg6
  · exact (((ButL.refl _ _ w).upd (by simp) hU2).trans (ButL.of_below hb36)).upd (by simp) hU7
theorem rtake_full (h bo bt : Nat) (r : Rs) (A : Option Addr) (cap : Nat) (co ct : Array Value) (x : Ord) (w : World) (f : Rf w h bo bt r A cap co ct) (hd : r.d = []) (hn : r.next = r.n) :
    Calls Try.prog 37 #[.pointer (some ⟨h, 0, none⟩), .agg x.arr] w fun e w' => e = .returned (.tuple #[.int .i64 0, .int .i64 7]) ∧ Below w.heap.size w w' := by
  have hn5 := f.n
  have hb1 : Below w.heap.size w (w.alloc (.cells x.arr 32)) := by (repeat (first | with_reducible exact Below.refl _ _ | (with_reducible assumption) | (with_reducible refine below_alloc ?_ _) | (with_reducible refine below_ext (w1 := ?_) ?_ ?_; rotate_left 2; (with_reducible assumption)) | (with_reducible refine Below.setCell ?_ ?_ _; rotate_left; ((try simp) <;> omega)) | (with_reducible refine Below.drew ?_) | (with_reducible refine below_drewN ?_ _) | fail))
  have f1 := f.ext hb1
  obtain ⟨c0, c1, c2, c3⟩ := f1.c
  have hH := f1.hd
  rw [hd] at c2
  rw [hn] at c3
  simp only [List.length_nil] at c2
  have hB : BlkAt (w.alloc (.cells x.arr 32)) (.pointer (some ⟨h, 0, none⟩)) #[.slice (some ⟨bo, 0, none⟩) r.n r.n, .slice (some ⟨bt, 0, none⟩) r.n r.n, .slice A 0 cap, .int .i64 r.n] := by
    have := hH.at
    unfold rfArr at this
    rw [hd, hn] at this
    exact this
  clear hd hn hH
  go_enter Try.func37, Try.ntmps37
  go_wp2_with fail
  refine wp_region_below_lit (by kernel_rfl) (by kernel_rfl) ?_
  repeat (first | go_big_quiet_skip | (go_big_quiet_want; go_big_quiet_op; go_big_quiet_on) | (refine q_load_fld (by rfl) _ _ (by rfl) (fun _ h => h) _ _ (by rfl) ?_ ?_ ?_ ?_ ?_ ?_; rotate_left; (next => (repeat (first | (with_reducible refine BlkAt.new _ _ _ _ ?_; ((try simp) <;> omega)) | (with_reducible assumption) | (with_reducible refine Blk.at (t := ?_) ?_; rotate_left; with_reducible assumption) | with_reducible refine BlkAt.alloc ?_ _ | with_reducible refine BlkAt.drew ?_ | (with_reducible refine BlkAt.setSame ?_ _ _) | (with_reducible refine BlkAt.setCell ?_ ?_ _; rotate_left; ((try simp) <;> omega)) | (with_reducible refine BlkAt.ext (w := ?_) ?_ ?_; rotate_left 2; (with_reducible assumption)) | fail))); rotate_left; (next => first | (simp only [go_sem]; rfl) | rfl); (next => kernel_rfl); (try simp only [Act.put, List.setIfInBounds_toArray, List.set_cons_zero, List.set_cons_succ])) | (refine q_rem (by rfl) _ _ _ _ (by rfl) _ _ (by rfl) (by rfl) (by kernel_rfl) (by kernel_rfl) ?_ ?_; (next => omega); (try simp only [Act.put, List.setIfInBounds_toArray, List.set_cons_zero, List.set_cons_succ])) | (refine q_step_ex (by rfl) ?_; apply Exists.intro; refine ⟨fun W hW => ?_, ?_⟩; (next => (have hWc := fun (b o : Nat) (h : b < _) => (Ext.out hW).cell (p := ⟨b, o, none⟩) h); go_simp; first | rfl | fail); (try simp only [Act.put, List.setIfInBounds_toArray, List.set_cons_zero, List.set_cons_succ])) | fail)
  refine wpQuiet_nil ?_
  intro wq hbq
  go_wp2_with fail
  go_ret2
  exact ⟨rfl, by (repeat (first | with_reducible exact Below.refl _ _ | (with_reducible assumption) | (with_reducible refine below_alloc ?_ _) | (with_reducible refine below_ext (w1 := ?_) ?_ ?_; rotate_left 2; (with_reducible assumption)) | (with_reducible refine Below.setCell ?_ ?_ _; rotate_left; ((try simp) <;> omega)) | (with_reducible refine Below.drew ?_) | (with_reducible refine below_drewN ?_ _) | fail))⟩
theorem rtake_next (h bo bt : Nat) (r : Rs) (A : Option Addr) (cap : Nat) (co ct : Array Value) (x : Ord) (w : World) (f : Rf w h bo bt r A cap co ct) (hd : r.d = []) (hn : r.next < r.n) :
    Calls Try.prog 37 #[.pointer (some ⟨h, 0, none⟩), .agg x.arr] w fun e w' => e = .returned (.tuple #[.int .i64 r.next, .int .i64 0]) ∧ (∃ co' ct', Rf w' h bo bt (r.take r.next x [] (r.next + 1)) A cap co' ct') ∧ ButL [h, bo, bt] w.heap.size w w' := by
  have hn5 := f.n
  have hb1 : Below w.heap.size w (w.alloc (.cells x.arr 32)) := by (repeat (first | with_reducible exact Below.refl _ _ | (with_reducible assumption) | (with_reducible refine below_alloc ?_ _) | (with_reducible refine below_ext (w1 := ?_) ?_ ?_; rotate_left 2; (with_reducible assumption)) | (with_reducible refine Below.setCell ?_ ?_ _; rotate_left; ((try simp) <;> omega)) | (with_reducible refine Below.drew ?_) | (with_reducible refine below_drewN ?_ _) | fail))
  have f1 := f.ext hb1
  have hO : Blk (w.alloc (.cells x.arr 32)) w.heap.size 32 x.arr := Blk.new _ _ _ _ rfl
  obtain ⟨c0, c1, c2, c3⟩ := f1.c
  have hH := f1.hd
  have hBo := f1.fbo
  have hBt := f1.fbt
  have hoc := f1.oc.1
  have htc := f1.tc.1
  have hhl := f1.hd.lt
  have hne := f.ne
  have hOne : h < w.heap.size ∧ bo < w.heap.size ∧ bt < w.heap.size := ⟨f.hd.lt, f.fbo.lt, f.fbt.lt⟩
  rw [hd] at c2
  simp only [List.length_nil] at c2
  have e2 : (r.next : Int) < (r.n : Int) := by omega
  have HD := Lib.hid hd
  clear hd
  go_enter Try.func37, Try.ntmps37
  go_wp2_with fail
  refine wp_region_below_lit (by kernel_rfl) (by kernel_rfl) ?_
  repeat (first | go_big_quiet_skip | (go_big_quiet_want; go_big_quiet_op; go_big_quiet_on) | (refine q_load_fld (by rfl) _ _ (by rfl) (fun _ h => h) _ _ (by rfl) ?_ ?_ ?_ ?_ ?_ ?_; rotate_left; (next => (repeat (first | (with_reducible refine BlkAt.new _ _ _ _ ?_; ((try simp) <;> omega)) | (with_reducible assumption) | (with_reducible refine Blk.at (t := ?_) ?_; rotate_left; with_reducible assumption) | with_reducible refine BlkAt.alloc ?_ _ | with_reducible refine BlkAt.drew ?_ | (with_reducible refine BlkAt.setSame ?_ _ _) | (with_reducible refine BlkAt.setCell ?_ ?_ _; rotate_left; ((try simp) <;> omega)) | (with_reducible refine BlkAt.ext (w := ?_) ?_ ?_; rotate_left 2; (with_reducible assumption)) | fail))); rotate_left; (next => first | (simp only [go_sem]; rfl) | rfl); (next => kernel_rfl); (try simp only [Act.put, List.setIfInBounds_toArray, List.set_cons_zero, List.set_cons_succ])) | (refine q_rem (by rfl) _ _ _ _ (by rfl) _ _ (by rfl) (by rfl) (by kernel_rfl) (by kernel_rfl) ?_ ?_; (next => omega); (try simp only [Act.put, List.setIfInBounds_toArray, List.set_cons_zero, List.set_cons_succ])) | (refine q_step_ex (by rfl) ?_; apply Exists.intro; refine ⟨fun W hW => ?_, ?_⟩; (next => (have hWc := fun (b o : Nat) (h : b < _) => (Ext.out hW).cell (p := ⟨b, o, none⟩) h); go_simp; first | rfl | fail); (try simp only [Act.put, List.setIfInBounds_toArray, List.set_cons_zero, List.set_cons_succ])) | fail)
  refine wpQuiet_nil ?_
  intro wq hbq
  have f2 := f1.ext hbq
  have hH2 := hH.ext hbq
  have hBo2 := hBo.ext hbq
  have hBt2 := hBt.ext hbq
  have hO2 := hO.ext hbq
  obtain ⟨d0, d1, d2, d3⟩ := f2.c
  go_wp2_with (first | ((refine wpList_store_fld (by rfl) _ _ _ (by rfl) _ _ (by rfl) _ (by rfl) _ _ hH2 ?_ ?_ (by rfl) (by rfl) ?_; (next => first | omega | ((try simp) <;> omega)); (next => kernel_rfl); intro w3 hH3 hU3); replace hH3 : Blk w3 h 51 (rfArr bo bt ⟨r.n, r.o, r.t, r.d, r.next + 1⟩ A cap) := hH3) | fail)
  have hO3 := hO2.upd (by omega) hU3
  have hBo3 := hBo2.upd (Ne.symm hne.1) hU3
  have hBt3 := hBt2.upd (Ne.symm hne.2.1) hU3
  refine wp_region_below_tail 7 (by kernel_rfl) (by kernel_rfl) ?_
  simp only [List.take_succ_cons, List.take_zero, List.drop_succ_cons, List.drop_zero]
  repeat (first | go_big_quiet_skip | (go_big_quiet_want; go_big_quiet_op; go_big_quiet_on) | (refine q_load_blk (by rfl) 32 _ (by rfl) ?_ (.pointer (some ⟨_, 0, none⟩)) (by rfl) ?_ _ (fun _ h => h) Try.underlying32 rfl ?_ ?_; rotate_left; (next => (repeat (first | (with_reducible refine BlkAt.new _ _ _ _ ?_; ((try simp) <;> omega)) | (with_reducible assumption) | (with_reducible refine Blk.at (t := ?_) ?_; rotate_left; with_reducible assumption) | with_reducible refine BlkAt.alloc ?_ _ | with_reducible refine BlkAt.drew ?_ | (with_reducible refine BlkAt.setSame ?_ _ _) | (with_reducible refine BlkAt.setCell ?_ ?_ _; rotate_left; ((try simp) <;> omega)) | (with_reducible refine BlkAt.ext (w := ?_) ?_ ?_; rotate_left 2; (with_reducible assumption)) | fail))); (next => kernel_rfl); (try simp only [Act.put, List.setIfInBounds_toArray, List.set_cons_zero, List.set_cons_succ])) | (refine q_load_fld (by rfl) _ _ (by rfl) (fun _ h => h) _ _ (by rfl) ?_ ?_ ?_ ?_ ?_ ?_; rotate_left; (next => (repeat (first | (with_reducible refine BlkAt.new _ _ _ _ ?_; ((try simp) <;> omega)) | (with_reducible assumption) | (with_reducible refine Blk.at (t := ?_) ?_; rotate_left; with_reducible assumption) | with_reducible refine BlkAt.alloc ?_ _ | with_reducible refine BlkAt.drew ?_ | (with_reducible refine BlkAt.setSame ?_ _ _) | (with_reducible refine BlkAt.setCell ?_ ?_ _; rotate_left; ((try simp) <;> omega)) | (with_reducible refine BlkAt.ext (w := ?_) ?_ ?_; rotate_left 2; (with_reducible assumption)) | fail))); rotate_left; (next => first | (simp only [go_sem]; rfl) | rfl); (next => kernel_rfl); (try simp only [Act.put, List.setIfInBounds_toArray, List.set_cons_zero, List.set_cons_succ])) | (refine q_rem (by rfl) _ _ _ _ (by rfl) _ _ (by rfl) (by rfl) (by kernel_rfl) (by kernel_rfl) ?_ ?_; (next => omega); (try simp only [Act.put, List.setIfInBounds_toArray, List.set_cons_zero, List.set_cons_succ])) | (refine q_step_ex (by rfl) ?_; apply Exists.intro; refine ⟨fun W hW => ?_, ?_⟩; (next => (have hWc := fun (b o : Nat) (h : b < _) => (Ext.out hW).cell (p := ⟨b, o, none⟩) h); go_simp; first | rfl | fail); (try simp only [Act.put, List.setIfInBounds_toArray, List.set_cons_zero, List.set_cons_succ])) | fail)
  refine wpQuiet_nil ?_
  intro wr hbr
  have hH4 := hH3.ext hbr
  have hBo4 := hBo3.ext hbr
  have hBt4 := hBt3.ext hbr
  (refine wpList_store_put (by rfl) _ _ _ (by rfl) _ _ _ (by rfl) (by rfl) _ _ hBo4 ?_ ?_ ?_ ?_; (next => kernel_rfl); (next => rw [ordArr_size]; omega); (next => first | exact slotArr_one _ _ | exact ordArr_one _ | (simp [Value.oneCell']; done)); intro w5 hBo5 hU5)
  have hH5 := hH4.upd hne.1 hU5
  have hBt5 := hBt4.upd (Ne.symm hne.2.2) hU5
  have g1 : w5.cell? ⟨h, 1, none⟩ = some (.slice (some ⟨bt, 0, none⟩) r.n r.n) := hH5.cell 1
  go_wp2_with (first | (refine wpList_store_fld (by rfl) _ _ _ (by rfl) _ _ (by rfl) _ (by rfl) _ _ hBt5 ?_ ?_ (by rfl) (by rfl) ?_; (next => first | omega | ((try simp) <;> omega)); (next => kernel_rfl); intro w6 hBt6 hU6) | fail)
  go_ret2
  have hrd := (((f2.rd.upd (fun a e => (f.far a e).1) hU3).below hbr).upd (fun a e => (f.far a e).2.1) hU5).upd (fun a e => (f.far a e).2.2.1) hU6
  rw [HD.out] at hrd hH5
  have hz := hb1.size
  have hz2 := hbq.size
  have hz3 := hU3.size
  have hz4 := hbr.size
  have hz5 := hU5.size
  have hz6 := hU6.size
  refine ⟨rfl, ⟨_, _, ⟨hH5.upd hne.2.1 hU6, hBo5.upd hne.2.2 hU6, hBt6, OC.set f.oc hn x _ _ _, TC.set f.tc hn true _ _ _, hrd, Nat.zero_le _, fun a e => by have := f.far a e; exact ⟨this.1, this.2.1, this.2.2.1, by omega⟩, f.nil, f.ne, by show r.next + 1 ≤ r.n; omega, f.n, Nat.zero_le _⟩⟩, (((((ButL.of_below hb1).ext hb1.size hbq).upd (by simp) hU3).ext (by omega) hbr).upd (by simp) hU5).upd (by simp) hU6⟩
theorem rtake_back (h bo bt : Nat) (r : Rs) (A : Option Addr) (cap : Nat) (co ct : Array Value) (x : Ord) (w : World) (f : Rf w h bo bt r A cap co ct) (d : List Nat) (k : Nat) (hd : r.d = d ++ [k]) (hk : k < r.n) :
    Calls Try.prog 37 #[.pointer (some ⟨h, 0, none⟩), .agg x.arr] w fun e w' => e = .returned (.tuple #[.int .i64 k, .int .i64 0]) ∧ (∃ co' ct', Rf w' h bo bt (r.take k x d r.next) A cap co' ct') ∧ ButL [h, bo, bt] w.heap.size w w' := by
  have hn5 := f.n
  have hb1 : Below w.heap.size w (w.alloc (.cells x.arr 32)) := by (repeat (first | with_reducible exact Below.refl _ _ | (with_reducible assumption) | (with_reducible refine below_alloc ?_ _) | (with_reducible refine below_ext (w1 := ?_) ?_ ?_; rotate_left 2; (with_reducible assumption)) | (with_reducible refine Below.setCell ?_ ?_ _; rotate_left; ((try simp) <;> omega)) | (with_reducible refine Below.drew ?_) | (with_reducible refine below_drewN ?_ _) | fail))
  have f1 := f.ext hb1
  have hO : Blk (w.alloc (.cells x.arr 32)) w.heap.size 32 x.arr := Blk.new _ _ _ _ rfl
  obtain ⟨c0, c1, c2, c3⟩ := f1.c
  have hlen : r.d.length = d.length + 1 := by rw [hd]; simp
  obtain ⟨b, off, hA, hcd⟩ := f1.rd (by rw [hd]; simp)
  have c4 := hcd d.length 0 (.int .i64 k) (by rw [hd]; simp [natC])
  simp only [Nat.mul_one, Nat.add_zero] at c4
  have hcap := f.hcap
  have hdn := f.dn
  rw [hlen] at c2 hcap hdn
  subst hA
  have hH := f1.hd
  have hBo := f1.fbo
  have hBt := f1.fbt
  have hoc := f1.oc.1
  have htc := f1.tc.1
  have hne := f.ne
  have hOne : h < w.heap.size ∧ bo < w.heap.size ∧ bt < w.heap.size := ⟨f.hd.lt, f.fbo.lt, f.fbt.lt⟩
  have e1 : (k : Int) < (r.n : Int) := by omega
  have HD := Lib.hid hd
  have HL := Lib.hid hlen
  have HC := Lib.hid hcd
  clear hd hlen hcd
  go_enter Try.func37, Try.ntmps37
  go_wp2_with (first | ((refine wpList_store_fld (by rfl) _ _ _ (by rfl) _ _ (by rfl) _ (by rfl) _ _ hH ?_ ?_ (by rfl) (by rfl) ?_; (next => first | omega | ((try simp) <;> omega)); (next => kernel_rfl); intro w3 hH3 hU3); replace hH3 : Blk w3 h 51 #[.slice (some ⟨bo, 0, none⟩) r.n r.n, .slice (some ⟨bt, 0, none⟩) r.n r.n, .slice (some ⟨b, off, none⟩) d.length cap, .int .i64 r.next] := hH3) | fail)
  have hO3 := hO.upd (by omega) hU3
  have hBo3 := hBo.upd (Ne.symm hne.1) hU3
  have hBt3 := hBt.upd (Ne.symm hne.2.1) hU3
  refine wp_region_below_tail 7 (by kernel_rfl) (by kernel_rfl) ?_
  simp only [List.take_succ_cons, List.take_zero, List.drop_succ_cons, List.drop_zero]
  repeat (first | go_big_quiet_skip | (go_big_quiet_want; go_big_quiet_op; go_big_quiet_on) | (refine q_load_blk (by rfl) 32 _ (by rfl) ?_ (.pointer (some ⟨_, 0, none⟩)) (by rfl) ?_ _ (fun _ h => h) Try.underlying32 rfl ?_ ?_; rotate_left; (next => (repeat (first | (with_reducible refine BlkAt.new _ _ _ _ ?_; ((try simp) <;> omega)) | (with_reducible assumption) | (with_reducible refine Blk.at (t := ?_) ?_; rotate_left; with_reducible assumption) | with_reducible refine BlkAt.alloc ?_ _ | with_reducible refine BlkAt.drew ?_ | (with_reducible refine BlkAt.setSame ?_ _ _) | (with_reducible refine BlkAt.setCell ?_ ?_ _; rotate_left; ((try simp) <;> omega)) | (with_reducible refine BlkAt.ext (w := ?_) ?_ ?_; rotate_left 2; (with_reducible assumption)) | fail))); (next => kernel_rfl); (try simp only [Act.put, List.setIfInBounds_toArray, List.set_cons_zero, List.set_cons_succ])) | (refine q_load_fld (by rfl) _ _ (by rfl) (fun _ h => h) _ _ (by rfl) ?_ ?_ ?_ ?_ ?_ ?_; rotate_left; (next => (repeat (first | (with_reducible refine BlkAt.new _ _ _ _ ?_; ((try simp) <;> omega)) | (with_reducible assumption) | (with_reducible refine Blk.at (t := ?_) ?_; rotate_left; with_reducible assumption) | with_reducible refine BlkAt.alloc ?_ _ | with_reducible refine BlkAt.drew ?_ | (with_reducible refine BlkAt.setSame ?_ _ _) | (with_reducible refine BlkAt.setCell ?_ ?_ _; rotate_left; ((try simp) <;> omega)) | (with_reducible refine BlkAt.ext (w := ?_) ?_ ?_; rotate_left 2; (with_reducible assumption)) | fail))); rotate_left; (next => first | (simp only [go_sem]; rfl) | rfl); (next => kernel_rfl); (try simp only [Act.put, List.setIfInBounds_toArray, List.set_cons_zero, List.set_cons_succ])) | (refine q_rem (by rfl) _ _ _ _ (by rfl) _ _ (by rfl) (by rfl) (by kernel_rfl) (by kernel_rfl) ?_ ?_; (next => omega); (try simp only [Act.put, List.setIfInBounds_toArray, List.set_cons_zero, List.set_cons_succ])) | (refine q_step_ex (by rfl) ?_; apply Exists.intro; refine ⟨fun W hW => ?_, ?_⟩; (next => (have hWc := fun (b o : Nat) (h : b < _) => (Ext.out hW).cell (p := ⟨b, o, none⟩) h); go_simp; first | rfl | fail); (try simp only [Act.put, List.setIfInBounds_toArray, List.set_cons_zero, List.set_cons_succ])) | fail)
  refine wpQuiet_nil ?_
  intro wr hbr
  have hH4 := hH3.ext hbr
  have hBo4 := hBo3.ext hbr
  have hBt4 := hBt3.ext hbr
  (refine wpList_store_put (by rfl) _ _ _ (by rfl) _ _ _ (by rfl) (by rfl) _ _ hBo4 ?_ ?_ ?_ ?_; (next => kernel_rfl); (next => rw [ordArr_size]; omega); (next => first | exact slotArr_one _ _ | exact ordArr_one _ | (simp [Value.oneCell']; done)); intro w5 hBo5 hU5)
  have hH5 := hH4.upd hne.1 hU5
  have hBt5 := hBt4.upd (Ne.symm hne.2.2) hU5
  have g1 : w5.cell? ⟨h, 1, none⟩ = some (.slice (some ⟨bt, 0, none⟩) r.n r.n) := hH5.cell 1
  go_wp2_with (first | (refine wpList_store_fld (by rfl) _ _ _ (by rfl) _ _ (by rfl) _ (by rfl) _ _ hBt5 ?_ ?_ (by rfl) (by rfl) ?_; (next => first | omega | ((try simp) <;> omega)); (next => kernel_rfl); intro w6 hBt6 hU6) | fail)
  go_ret2
  have hrd0 : Rd w 1 (some ⟨b, off, none⟩) (d.map natC) := fun hne0 => by
    obtain ⟨b', o', e', hc'⟩ := f.rd (by rw [HD.out]; simp)
    refine ⟨b', o', e', fun i j u hu => hc' i j u ?_⟩
    rw [HD.out]
    have hi : i < (d.map natC).length := by
      rcases Nat.lt_or_ge i (d.map natC).length with h1 | h1
      · exact h1
      · simp [List.getD_eq_getElem?_getD, List.getElem?_eq_none h1] at hu
    simpa [List.getD_eq_getElem?_getD, List.getElem?_append_left (show i < (d.map natC).length from hi)] using hu
  have hrd := (((((hrd0.below hb1).upd (fun a e => (f.far a e).1) hU3).below hbr).upd (fun a e => (f.far a e).2.1) hU5).upd (fun a e => (f.far a e).2.2.1) hU6)
  have hz := hb1.size
  have hz3 := hU3.size
  have hz4 := hbr.size
  have hz5 := hU5.size
  have hz6 := hU6.size
  refine ⟨rfl, ⟨_, _, ⟨hH5.upd hne.2.1 hU6, hBo5.upd hne.2.2 hU6, hBt6, OC.set f.oc hk x _ _ _, TC.set f.tc hk true _ _ _, hrd, by show d.length ≤ cap; omega, fun a e => by have := f.far a e; exact ⟨this.1, this.2.1, this.2.2.1, by omega⟩, f.nil, f.ne, f.next, f.n, by show d.length ≤ 500; omega⟩⟩, ((((ButL.of_below hb1).upd (by simp) hU3).ext (by omega) hbr).upd (by simp) hU5).upd (by simp) hU6⟩
theorem rnew_bad (n : Int) (w : World) (h : ¬ (1 ≤ n ∧ n ≤ 500)) :
    Calls Try.prog 15 #[.int .i64 n] w fun e w' => e = .returned (.tuple #[.pointer none, .int .i64 9]) ∧ w = w' := by
  by_cases h0 : n < 1
  · go_enter Try.func15, Try.ntmps15
    go_wp2_with fail
    go_ret2
    exact ⟨rfl, rfl⟩
  · have h1 : 500 < n := by omega
    clear h
    go_enter Try.func15, Try.ntmps15
    go_wp2_with fail
    go_ret2
    exact ⟨rfl, rfl⟩
def NewPost (n : Nat) (w : World) (e : Ending) (w' : World) : Prop :=
  ∃ h bo bt co ct, e = .returned (.tuple #[.pointer (some ⟨h, 0, none⟩), .int .i64 0]) ∧ (w.heap.size ≤ h ∧ w.heap.size ≤ bo ∧ w.heap.size ≤ bt) ∧ Rf w' h bo bt (rs0 n) none 0 co ct ∧ Below w.heap.size w w'
theorem rnew_post (n : Nat) (w : World) (h bo bt : Nat) (W : World) (hh : Blk W h 51 (rfArr bo bt (rs0 n) none 0)) (ho : Blk W bo 32 (madeCells ord0.arr (n * 7))) (ht : Blk W bt 4 (madeCells #[.bool false] n))
    (hs : (w.heap.size ≤ h ∧ w.heap.size ≤ bo ∧ w.heap.size ≤ bt) ∧ h ≠ bo ∧ h ≠ bt ∧ bo ≠ bt) (hn : n ≤ 500) (hb : Below w.heap.size w W) : NewPost n w (.returned (.tuple #[.pointer (some ⟨h, 0, none⟩), .int .i64 0])) W := by
  have hz : ∀ i, i < ord0.arr.size → ord0.arr[i]? = some (Value.int .i64 0) := fun i hi => by
    match i, hi with
    | 0, _ => rfl
    | 1, _ => rfl
    | 2, _ => rfl
    | 3, _ => rfl
    | 4, _ => rfl
    | 5, _ => rfl
    | 6, _ => rfl
  refine ⟨h, bo, bt, _, _, rfl, hs.1, ⟨hh, ho, ht, ⟨by rw [size_madeCells]; rfl, fun k hk j hj => ?_⟩, ⟨by rw [size_madeCells]; rfl, fun k hk => ?_⟩, fun h0 => absurd rfl h0, Nat.zero_le _, fun a e => (by cases e), fun _ => rfl, hs.2, Nat.zero_le _, hn, Nat.zero_le _⟩, hb⟩
  · have hk' : k < n := hk
    rw [madeCells_all hz (by decide) _ _ (by omega)]
    exact (hz j hj).symm
  · exact madeCells_all (v := .bool false) (fun i hi => by
      have : i = 0 := by simp at hi; omega
      subst this; rfl) (by decide) _ _ hk
theorem rnew_any (n : Nat) (w : World) (h1 : 1 ≤ n) (h2 : n ≤ 500) :
    Calls Try.prog 15 #[.int .i64 n] w (NewPost n w) := by
  have hm1 : ∀ W : World, (Instr.makeSlice 22 (.int .i64 n) (.int .i64 n)).run Try.prog W = .ok (.slice (some ⟨W.heap.size, 0, none⟩) n n) (W.alloc (.cells (madeCells ord0.arr (n * 7)) 32)) := fun W => by
    obtain ⟨i, hi, hz, hs, hby⟩ := info_parts (P := Try.prog) (e := 32) (z := .agg ord0.arr) (size := 7) (bytes := 56) (by kernel_rfl)
    have hr := run_make (P := Try.prog) W 22 32 i _ Try.underlying22 hi hz .i64 .i64 n n (by omega) (Int.le_refl _) (by rw [hby]; omega) (by omega)
    rw [hs] at hr
    simp only [Int.toNat_natCast] at hr
    exact hr
  have hm2 : ∀ W : World, (Instr.makeSlice 49 (.int .i64 n) (.int .i64 n)).run Try.prog W = .ok (.slice (some ⟨W.heap.size, 0, none⟩) n n) (W.alloc (.cells (madeCells #[.bool false] n) 4)) := fun W => by
    obtain ⟨i, hi, hz, hs, hby⟩ := info_parts (P := Try.prog) (e := 4) (z := .bool false) (size := 1) (bytes := 1) (by kernel_rfl)
    have hr := run_make (P := Try.prog) W 49 4 i _ Try.underlying49 hi hz .i64 .i64 n n (by omega) (Int.le_refl _) (by rw [hby]; omega) (by omega)
    rw [hs] at hr
    simp only [Int.toNat_natCast, Nat.mul_one] at hr
    exact hr
  go_enter Try.func15, Try.ntmps15
  go_wp2_with fail
  go_region_with fail
  all_goals go_wp2_with fail
  all_goals go_ret2
  · exact rnew_post n w _ _ _ _ (Blk.new _ _ _ _ (by rw [sz_alloc, sz_alloc])).drew (((Blk.new w _ _ _ rfl).alloc _).alloc _).drew ((Blk.new _ _ _ _ (sz_alloc _ _)).alloc _).drew (by omega) (by omega) (by (repeat (first | with_reducible exact Below.refl _ _ | (with_reducible assumption) | (with_reducible refine below_alloc ?_ _) | (with_reducible refine below_ext (w1 := ?_) ?_ ?_; rotate_left 2; (with_reducible assumption)) | (with_reducible refine Below.setCell ?_ ?_ _; rotate_left; ((try simp) <;> omega)) | (with_reducible refine Below.drew ?_) | (with_reducible refine below_drewN ?_ _) | fail)))
  · exact rnew_post n w _ _ _ _ (Blk.new _ _ _ _ (by rw [sz_alloc, sz_alloc])).drew ((Blk.new _ _ _ _ (sz_alloc _ _)).alloc _).drew (((Blk.new w _ _ _ rfl).alloc _).alloc _).drew (by omega) (by omega) (by (repeat (first | with_reducible exact Below.refl _ _ | (with_reducible assumption) | (with_reducible refine below_alloc ?_ _) | (with_reducible refine below_ext (w1 := ?_) ?_ ?_; rotate_left 2; (with_reducible assumption)) | (with_reducible refine Below.setCell ?_ ?_ _; rotate_left; ((try simp) <;> omega)) | (with_reducible refine Below.drew ?_) | (with_reducible refine below_drewN ?_ _) | fail)))
end Are
end Go.Proofs.Ytodgeakkecaliaa
