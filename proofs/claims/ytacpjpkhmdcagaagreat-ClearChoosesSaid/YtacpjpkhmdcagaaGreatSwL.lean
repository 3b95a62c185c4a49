/- This text proves plain laws on what a taker would trade with a side's orders. It has no conditions but those that it states. -/
import Derived.Test.YtacpjpkhmdcagaaGreatBkQ
namespace Go.Proofs.YtacpjpkhmdcagaaGreat
set_option linter.unusedVariables false
namespace Sw
open Bk (bet)
/-- A fill. -/
structure Fl where
  (id price qty : Int) (gone : Bool)
def Fl.cells (f : Fl) : List Value := [.int .i64 f.id, .int .i64 f.price, .int .i64 f.qty, .bool f.gone]
def Fl.arr (f : Fl) : Array Value := f.cells.toArray
@[go_sem] theorem Fl.arr_size (f : Fl) : f.arr.size = 4 := rfl
@[go_sem] theorem Fl.arr_0 (f : Fl) : f.arr[0]? = some (.int .i64 f.id) := rfl
@[go_sem] theorem Fl.arr_1 (f : Fl) : f.arr[1]? = some (.int .i64 f.price) := rfl
@[go_sem] theorem Fl.arr_2 (f : Fl) : f.arr[2]? = some (.int .i64 f.qty) := rfl
@[go_sem] theorem Fl.arr_3 (f : Fl) : f.arr[3]? = some (.bool f.gone) := rfl
def flatF (l : List Fl) : List Value := (l.map Fl.cells).flatten
/-- A taker. -/
structure Tk where
  (side owner limit qty lo hi self : Int)
def Tk.arr (t : Tk) : Array Value := #[.int .i64 t.side, .int .i64 t.owner, .int .i64 t.limit, .int .i64 t.qty, .int .i64 t.lo, .int .i64 t.hi, .int .i64 t.self]
@[go_sem] theorem Tk.arr_size (t : Tk) : t.arr.size = 7 := rfl
@[go_sem] theorem Tk.arr_0 (t : Tk) : t.arr[0]? = some (.int .i64 t.side) := rfl
@[go_sem] theorem Tk.arr_1 (t : Tk) : t.arr[1]? = some (.int .i64 t.owner) := rfl
@[go_sem] theorem Tk.arr_2 (t : Tk) : t.arr[2]? = some (.int .i64 t.limit) := rfl
@[go_sem] theorem Tk.arr_3 (t : Tk) : t.arr[3]? = some (.int .i64 t.qty) := rfl
@[go_sem] theorem Tk.arr_4 (t : Tk) : t.arr[4]? = some (.int .i64 t.lo) := rfl
@[go_sem] theorem Tk.arr_5 (t : Tk) : t.arr[5]? = some (.int .i64 t.hi) := rfl
@[go_sem] theorem Tk.arr_6 (t : Tk) : t.arr[6]? = some (.int .i64 t.self) := rfl
/-- Is a price worse than a limit, for a side? -/
def wrs (side price limit : Int) : Bool := decide (limit ≠ 0) && bet side price limit
/-- What a taker trades with orders in a row: the fills, what is left, and why it ends. -/
def mk (t : Tk) : List Ord → Int → List Fl × Int × Int
  | [], left => ([], left, if left = 0 then 0 else 1)
  | o :: l, left =>
    if left = 0 then ([], left, 0)
    else if wrs t.side o.price t.limit = true then ([], left, 1)
    else if o.price < t.lo ∨ t.hi < o.price then ([], left, 2)
    else if t.self = 0 ∨ o.owner ≠ t.owner then
      (⟨o.id, o.price, min left o.qty, false⟩ :: (mk t l (left - min left o.qty)).1, (mk t l (left - min left o.qty)).2)
    else if t.self = 1 then ([], left, 3)
    else if t.self = 3 then ([⟨o.id, o.price, o.qty, true⟩], left, 3)
    else (⟨o.id, o.price, o.qty, true⟩ :: (mk t l left).1, (mk t l left).2)
/-- The plan of a taker over all orders of a book. -/
def mkP (t : Tk) (os : List Ord) : List Fl × Int × Int :=
  if (t.side = 0 ∨ t.side = 1) ∧ 1 ≤ t.qty then mk t (Bk.srt (1 - t.side) os) t.qty else ([], t.qty, 1)
/-- What is known when the first orders are passed. -/
def Cont (t : Tk) (q : Int) (pre : List Ord) (fs : List Fl) (left : Int) : Prop :=
  ∀ rest, mk t (pre ++ rest) q = (fs ++ (mk t rest left).1, (mk t rest left).2)
theorem cont_nil (t : Tk) (q : Int) : Cont t q [] [] q := fun rest => rfl
section
variable {t : Tk} {q : Int} {pre : List Ord} {fs : List Fl} {left : Int} {o : Ord}
theorem Cont.all (h : Cont t q pre fs left) : mk t pre q = (fs, left, if left = 0 then 0 else 1) := by
  have h1 := h []
  rw [List.append_nil] at h1
  rw [h1]
  simp [mk]
theorem Cont.done (h : Cont t q pre fs left) (h0 : left = 0) : ∀ rest, mk t (pre ++ o :: rest) q = (fs, left, 0) := fun rest => by
  rw [h (o :: rest)]
  simp [mk, h0]
theorem Cont.worse (h : Cont t q pre fs left) (h0 : left ≠ 0) (h1 : wrs t.side o.price t.limit = true) : ∀ rest, mk t (pre ++ o :: rest) q = (fs, left, 1) := fun rest => by
  rw [h (o :: rest)]
  simp [mk, h0, h1]
theorem Cont.out (h : Cont t q pre fs left) (h0 : left ≠ 0) (h1 : wrs t.side o.price t.limit = false) (h2 : o.price < t.lo ∨ t.hi < o.price) : ∀ rest, mk t (pre ++ o :: rest) q = (fs, left, 2) := fun rest => by
  rw [h (o :: rest)]
  simp [mk, h0, h1, h2]
theorem Cont.trade (h : Cont t q pre fs left) (h0 : left ≠ 0) (h1 : wrs t.side o.price t.limit = false) (h2 : ¬ (o.price < t.lo ∨ t.hi < o.price)) (h3 : t.self = 0 ∨ o.owner ≠ t.owner) : Cont t q (pre ++ [o]) (fs ++ [⟨o.id, o.price, min left o.qty, false⟩]) (left - min left o.qty) := fun rest => by
  rw [List.append_assoc, List.singleton_append, h (o :: rest)]
  simp only [mk, h0, h1, if_neg, h2, if_pos h3, not_false_eq_true, Bool.false_eq_true]
  simp
theorem Cont.takerGoes (h : Cont t q pre fs left) (h0 : left ≠ 0) (h1 : wrs t.side o.price t.limit = false) (h2 : ¬ (o.price < t.lo ∨ t.hi < o.price)) (h3 : ¬ (t.self = 0 ∨ o.owner ≠ t.owner)) (h4 : t.self = 1) : ∀ rest, mk t (pre ++ o :: rest) q = (fs, left, 3) := fun rest => by
  rw [h (o :: rest)]
  simp only [mk, h0, h1, h2, if_neg h3, if_pos h4, Bool.false_eq_true, if_false]
  simp
theorem Cont.bothGo (h : Cont t q pre fs left) (h0 : left ≠ 0) (h1 : wrs t.side o.price t.limit = false) (h2 : ¬ (o.price < t.lo ∨ t.hi < o.price)) (h3 : ¬ (t.self = 0 ∨ o.owner ≠ t.owner)) (h4 : t.self ≠ 1) (h5 : t.self = 3) : ∀ rest, mk t (pre ++ o :: rest) q = (fs ++ [⟨o.id, o.price, o.qty, true⟩], left, 3) := fun rest => by
  rw [h (o :: rest)]
  simp only [mk, h0, h1, h2, if_neg h3, if_neg h4, if_pos h5, Bool.false_eq_true, if_false]
theorem Cont.makerGoes (h : Cont t q pre fs left) (h0 : left ≠ 0) (h1 : wrs t.side o.price t.limit = false) (h2 : ¬ (o.price < t.lo ∨ t.hi < o.price)) (h3 : ¬ (t.self = 0 ∨ o.owner ≠ t.owner)) (h4 : t.self ≠ 1) (h5 : t.self ≠ 3) : Cont t q (pre ++ [o]) (fs ++ [⟨o.id, o.price, o.qty, true⟩]) left := fun rest => by
  rw [List.append_assoc, List.singleton_append, h (o :: rest)]
  simp only [mk, h0, h1, h2, if_neg h3, if_neg h4, if_neg h5, Bool.false_eq_true, if_false]
  simp
end
/-- What is traded. -/
def trd : List Fl → Int
  | [] => 0
  | f :: l => (if f.gone = true then 0 else f.qty) + trd l
theorem trd_app (a b : List Fl) : trd (a ++ b) = trd a + trd b := by
  induction a with
  | nil => simp [trd]
  | cons x l ih => simp [trd, ih]; omega
/-- What a fill is to its order. -/
structure Fok (t : Tk) (o : Ord) (f : Fl) : Prop where
  id : f.id = o.id
  price : f.price = o.price
  pos : 1 ≤ f.qty
  le : f.qty ≤ o.qty
  whole : f.gone = true → f.qty = o.qty
  band : t.lo ≤ f.price ∧ f.price ≤ t.hi
  lim : wrs t.side f.price t.limit = false
  gone : f.gone = decide (t.self ≠ 0 ∧ o.owner = t.owner)
/-- What a plan is. -/
structure Pok (t : Tk) (l : List Ord) (q : Int) (p : List Fl × Int × Int) : Prop where
  len : p.1.length ≤ l.length
  fill : ∀ i (h : i < p.1.length) (h' : i < l.length), Fok t l[i] p.1[i]
  full : ∀ i (h : i + 1 < p.1.length) (h' : i < l.length), p.1[i].qty = l[i].qty
  left : 0 ≤ p.2.1
  stop : p.2.2 = 0 ↔ p.2.1 = 0
  sum : trd p.1 + p.2.1 = q
  pos : ∀ f ∈ p.1, 1 ≤ f.qty
theorem pok_nil {t : Tk} {l : List Ord} {q st : Int} (hq : 0 ≤ q) (h : st = 0 ↔ q = 0) : Pok t l q ([], q, st) :=
  ⟨Nat.zero_le _, fun i h => absurd h (Nat.not_lt_zero _), fun i h => absurd h (Nat.not_lt_zero _), hq, h, by simp [trd], fun f h => by cases h⟩
theorem Pok.cons {t : Tk} {l : List Ord} {q q' : Int} {p : List Fl × Int × Int} {o : Ord} {f : Fl} (h : Pok t l q' p) (hf : Fok t o f) (hq : (if f.gone = true then 0 else f.qty) + q' = q) (hl : p.1 ≠ [] → f.qty = o.qty) : Pok t (o :: l) q (f :: p.1, p.2) where
  len := by simpa using h.len
  fill := fun i h1 h2 => by
    cases i with
    | zero => exact hf
    | succ i => exact h.fill i (by simpa using h1) (by simpa using h2)
  full := fun i h1 h2 => by
    cases i with
    | zero => exact hl (fun e => by rw [e] at h1; simp at h1)
    | succ i => exact h.full i (by simpa using h1) (by simpa using h2)
  left := h.left
  stop := h.stop
  sum := by
    have := h.sum
    simp only [trd]
    omega
  pos := fun g hg => by
    rcases List.mem_cons.1 hg with rfl | hg
    · exact hf.pos
    · exact h.pos g hg
theorem mk_zero (t : Tk) (l : List Ord) : (mk t l 0).1 = [] := by
  cases l <;> simp [mk]
theorem mk_ok (t : Tk) : ∀ (l : List Ord) (q : Int), 0 ≤ q → (∀ o ∈ l, 1 ≤ o.qty) → Pok t l q (mk t l q)
  | [], q, hq, _ => by
    unfold mk
    refine pok_nil hq ?_
    by_cases h : q = 0 <;> simp [h]
  | o :: l, q, hq, hl => by
    have hoq := hl o (by simp)
    have hll : ∀ o ∈ l, 1 ≤ o.qty := fun x hx => hl x (by simp [hx])
    unfold mk
    by_cases h0 : q = 0
    · rw [if_pos h0]
      exact pok_nil hq (by simp [h0])
    rw [if_neg h0]
    by_cases h1 : wrs t.side o.price t.limit = true
    · rw [if_pos h1]
      exact pok_nil hq (by simp [h0])
    rw [if_neg h1]
    have h1' : wrs t.side o.price t.limit = false := by simpa using h1
    by_cases h2 : o.price < t.lo ∨ t.hi < o.price
    · rw [if_pos h2]
      exact pok_nil hq (by simp [h0])
    rw [if_neg h2]
    by_cases h3 : t.self = 0 ∨ o.owner ≠ t.owner
    · rw [if_pos h3]
      have ih := mk_ok t l (q - min q o.qty) (by omega) hll
      refine ih.cons ⟨rfl, rfl, by show 1 ≤ min q o.qty; omega, by show min q o.qty ≤ o.qty; omega, fun e => (by cases e), ⟨by show t.lo ≤ o.price; omega, by show o.price ≤ t.hi; omega⟩, h1', ?_⟩ (by simp; omega) ?_
      · show false = _
        rw [eq_comm, decide_eq_false_iff_not]
        rcases h3 with h3 | h3
        · exact fun h => h.1 h3
        · exact fun h => h3 h.2
      · intro hne
        show min q o.qty = o.qty
        by_cases h4 : q - min q o.qty = 0
        · rw [h4, mk_zero] at hne
          exact absurd rfl hne
        · omega
    rw [if_neg h3]
    have h3' : t.self ≠ 0 ∧ o.owner = t.owner := ⟨fun e => h3 (.inl e), Decidable.byContradiction fun e => h3 (.inr e)⟩
    have hf : Fok t o ⟨o.id, o.price, o.qty, true⟩ := ⟨rfl, rfl, hoq, Int.le_refl _, fun _ => rfl, ⟨by show t.lo ≤ o.price; omega, by show o.price ≤ t.hi; omega⟩, h1', (decide_eq_true h3').symm⟩
    by_cases h4 : t.self = 1
    · rw [if_pos h4]
      exact pok_nil hq (by simp [h0])
    rw [if_neg h4]
    by_cases h5 : t.self = 3
    · rw [if_pos h5]
      exact (pok_nil (t := t) (l := l) (st := 3) hq (by simp [h0])).cons hf (by simp) (fun _ => rfl)
    rw [if_neg h5]
    exact (mk_ok t l q hq hll).cons hf (by simp) (fun _ => rfl)
end Sw
end Go.Proofs.YtacpjpkhmdcagaaGreat
