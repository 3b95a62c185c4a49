/- This text proves plain laws on lists of orders: a side's list by price and time, and what it sums up to. It has no conditions but those that it states. This text proves plain laws on what a taker would trade with a side's orders. It has no conditions but those that it states. This text proves how a side's levels tell of a list of orders: plain laws. It has no conditions but those that it states. -/
import Derived.Test.YtbnappiaomiciaaGreatBkW
import Derived.Test.YtbnappiaomiciaaGreatBkC
import Derived.Test.YtbnappiaomiciaaGreatBkL
import Derived.Test.YtbnappiaomiciaaGreatLadS
namespace Go.Proofs.YtbnappiaomiciaaGreat
set_option linter.unusedVariables false
namespace Bk
/-- Is a price better than another one? -/
def bet (n a b : Int) : Bool := decide ((n = 0 ∧ b < a) ∨ (n = 1 ∧ a < b))
def insO (n : Int) (o : Ord) (l : List Ord) : List Ord := l.takeWhile (fun x => !bet n o.price x.price) ++ o :: l.dropWhile (fun x => !bet n o.price x.price)
def sdO (n : Int) (os : List Ord) : List Ord := os.filter fun o => decide (o.side = n)
/-- A side's orders, by price and time. -/
def srt (n : Int) (os : List Ord) : List Ord := (sdO n os).foldl (fun acc o => insO n o acc) []
def atO (n p : Int) (os : List Ord) : List Ord := os.filter fun o => decide (o.side = n ∧ o.price = p)
theorem bet_self (n a : Int) : bet n a a = false := by
  unfold bet
  simp
theorem bet_anti {n a b : Int} (h : bet n a b = true) : bet n b a = false := by
  unfold bet at *
  simp only [decide_eq_true_eq, decide_eq_false_iff_not] at *
  omega
theorem ins_perm (n : Int) (o : Ord) (l : List Ord) : (insO n o l).Perm (o :: l) := by
  unfold insO
  refine List.perm_middle.trans (List.Perm.cons o ?_)
  rw [List.takeWhile_append_dropWhile]
theorem fold_perm (n : Int) : ∀ (l acc : List Ord), (l.foldl (fun acc o => insO n o acc) acc).Perm (l ++ acc)
  | [], acc => List.Perm.refl _
  | o :: l, acc => ((fold_perm n l (insO n o acc)).trans ((ins_perm n o acc).append_left l)).trans List.perm_middle
theorem srt_perm (n : Int) (os : List Ord) : (srt n os).Perm (sdO n os) := by
  have := fold_perm n (sdO n os) []
  rw [List.append_nil] at this
  exact this
theorem srt_snoc (n : Int) (os : List Ord) (o : Ord) : srt n (os ++ [o]) = if o.side = n then insO n o (srt n os) else srt n os := by
  unfold srt sdO
  rw [List.filter_append, List.foldl_append]
  by_cases h : o.side = n <;> simp [h]
theorem while_none {l : List Ord} {p : Ord → Bool} (h : ∀ x ∈ l, p x = false) : l.takeWhile p = [] ∧ l.dropWhile p = l := by
  cases l with
  | nil => exact ⟨rfl, rfl⟩
  | cons a l =>
    have := h a (by simp)
    simp [this]
theorem ins_flat {n : Int} {F : Int → List Ord} {o : Ord} : ∀ {ps : List Int}, ps.Pairwise (fun a b => bet n a b = true) → (∀ p ∈ ps, ∀ x ∈ F p, x.price = p) → o.price ∈ ps →
    insO n o (ps.flatMap F) = ps.flatMap (fun p => if p = o.price then F p ++ [o] else F p)
  | [], _, _, h => by cases h
  | p :: ps, hps, hF, ho => by
    rw [List.pairwise_cons] at hps
    obtain ⟨hp, hps⟩ := hps
    have hF0 := hF p (by simp)
    have hF1 : ∀ q ∈ ps, ∀ x ∈ F q, x.price = q := fun q hq => hF q (by simp [hq])
    have hpass : ∀ x ∈ F p, (!bet n o.price x.price) = true := fun x hx => by
      rw [hF0 x hx]
      by_cases e : p = o.price
      · rw [e, bet_self]; rfl
      · have hm : o.price ∈ ps := by
          rcases List.mem_cons.1 ho with h | h
          · exact absurd h.symm e
          · exact h
        rw [bet_anti (hp _ hm)]
        rfl
    rw [List.flatMap_cons, List.flatMap_cons]
    unfold insO
    rw [List.takeWhile_append_of_pos hpass, List.dropWhile_append_of_pos hpass]
    by_cases e : p = o.price
    · rw [if_pos e]
      have hno : ∀ x ∈ ps.flatMap F, (!bet n o.price x.price) = false := fun x hx => by
        obtain ⟨q, hq, hxq⟩ := List.mem_flatMap.1 hx
        rw [hF1 q hq x hxq, ← e, hp q hq]
        rfl
      obtain ⟨h1, h2⟩ := while_none hno
      rw [h1, h2]
      have h3 : (ps.flatMap fun p => if p = o.price then F p ++ [o] else F p) = ps.flatMap F := by
        have : ∀ q ∈ ps, (if q = o.price then F q ++ [o] else F q) = F q := fun q hq => by
          rw [if_neg]
          intro e2
          have h4 := hp q hq
          rw [e2, ← e, bet_self] at h4
          cases h4
        have h5 : (ps.map fun p => if p = o.price then F p ++ [o] else F p) = ps.map F := List.map_congr_left this
        rw [List.flatMap_def, List.flatMap_def, h5]
      rw [h3]
      simp
    · rw [if_neg e]
      have hm : o.price ∈ ps := by
        rcases List.mem_cons.1 ho with h | h
        · exact absurd h.symm e
        · exact h
      have ih := ins_flat hps hF1 hm
      unfold insO at ih
      rw [← ih]
      simp
theorem atO_app (n p : Int) (a b : List Ord) : atO n p (a ++ b) = atO n p a ++ atO n p b := List.filter_append ..
theorem atO_price {n p : Int} {os : List Ord} {x : Ord} (h : x ∈ atO n p os) : x.side = n ∧ x.price = p := by
  unfold atO at h
  simpa using (List.mem_filter.1 h).2
theorem fold_flat {n : Int} {ps : List Int} (hps : ps.Pairwise (fun a b => bet n a b = true)) : ∀ (l pre : List Ord), (∀ o ∈ l, o.side = n → o.price ∈ ps) →
    (sdO n l).foldl (fun acc o => insO n o acc) (ps.flatMap fun p => atO n p pre) = ps.flatMap fun p => atO n p (pre ++ l)
  | [], pre, _ => by rw [List.append_nil]; rfl
  | o :: l, pre, hc => by
    have ih := fold_flat hps l (pre ++ [o]) (fun x hx => hc x (by simp [hx]))
    rw [List.append_assoc, List.singleton_append] at ih
    rw [← ih]
    by_cases e : o.side = n
    · have h1 : sdO n (o :: l) = o :: sdO n l := by simp [sdO, e]
      rw [h1, List.foldl_cons, ins_flat hps (fun p _ x hx => (atO_price hx).2) (hc o (by simp) e)]
      congr 1
      have h2 : ∀ p, (if p = o.price then atO n p pre ++ [o] else atO n p pre) = atO n p (pre ++ [o]) := fun p => by
        rw [atO_app]
        by_cases e2 : p = o.price
        · rw [if_pos e2]
          simp [atO, e, e2]
        · rw [if_neg e2]
          have : ¬ o.price = p := fun h => e2 h.symm
          simp [atO, this]
      rw [funext h2]
    · have h1 : sdO n (o :: l) = sdO n l := by simp [sdO, e]
      have h2 : ∀ p, atO n p (pre ++ [o]) = atO n p pre := fun p => by
        rw [atO_app]
        simp [atO, e]
      rw [h1, funext h2]
/-- A side's list, level by level. -/
theorem srt_flat {n : Int} {ps : List Int} (hps : ps.Pairwise (fun a b => bet n a b = true)) {os : List Ord} (hc : ∀ o ∈ os, o.side = n → o.price ∈ ps) : srt n os = ps.flatMap fun p => atO n p os := by
  have h := fold_flat hps os [] hc
  have h0 : (ps.flatMap fun p => atO n p []) = [] := by
    rw [List.flatMap_eq_nil_iff]
    exact fun _ _ => rfl
  rw [h0] at h
  exact h
end Bk
end Go.Proofs.YtbnappiaomiciaaGreat
namespace Go.Proofs.YtbnappiaomiciaaGreat
set_option linter.unusedVariables false
namespace Sw
open Bk (bet)
/-- A fill. -/
structure Fl where
  (id price qty : Int) (gone : Bool)
def Fl.cells (f : Fl) : List Value := [.int .i64 f.id, .int .i64 f.price, .int .i64 f.qty, .bool f.gone]
def Fl.arr (f : Fl) : Array Value := f.cells.toArray
@[go_sem] theorem Fl.arr_size (f : Fl) : f.arr.size = 4 := rfl
@[go_sem] theorem Fl.arr_0 (f : Fl) : f.arr[0]? = some (.int .i64 f.id) := rfl
@[go_sem] theorem Fl.arr_1 (f : Fl) : f.arr[1]? = some (.int .i64 f.price) := rfl
@[go_sem] theorem Fl.arr_2 (f : Fl) : f.arr[2]? = some (.int .i64 f.qty) := rfl
@[go_sem] theorem Fl.arr_3 (f : Fl) : f.arr[3]? = some (.bool f.gone) := rfl
def flatF (l : List Fl) : List Value := (l.map Fl.cells).flatten
/-- A taker. -/
structure Tk where
  (side owner limit qty lo hi self : Int)
def Tk.arr (t : Tk) : Array Value := #[.int .i64 t.side, .int .i64 t.owner, .int .i64 t.limit, .int .i64 t.qty, .int .i64 t.lo, .int .i64 t.hi, .int .i64 t.self]
@[go_sem] theorem Tk.arr_size (t : Tk) : t.arr.size = 7 := rfl
@[go_sem] theorem Tk.arr_0 (t : Tk) : t.arr[0]? = some (.int .i64 t.side) := rfl
@[go_sem] theorem Tk.arr_1 (t : Tk) : t.arr[1]? = some (.int .i64 t.owner) := rfl
@[go_sem] theorem Tk.arr_2 (t : Tk) : t.arr[2]? = some (.int .i64 t.limit) := rfl
@[go_sem] theorem Tk.arr_3 (t : Tk) : t.arr[3]? = some (.int .i64 t.qty) := rfl
@[go_sem] theorem Tk.arr_4 (t : Tk) : t.arr[4]? = some (.int .i64 t.lo) := rfl
@[go_sem] theorem Tk.arr_5 (t : Tk) : t.arr[5]? = some (.int .i64 t.hi) := rfl
@[go_sem] theorem Tk.arr_6 (t : Tk) : t.arr[6]? = some (.int .i64 t.self) := rfl
/-- Is a price worse than a limit, for a side? -/
def wrs (side price limit : Int) : Bool := decide (limit ≠ 0) && bet side price limit
/-- What a taker trades with orders in a row: the fills, what is left, and why it ends. -/
def mk (t : Tk) : List Ord → Int → List Fl × Int × Int
  | [], left => ([], left, if left = 0 then 0 else 1)
  | o :: l, left =>
    if left = 0 then ([], left, 0)
    else if wrs t.side o.price t.limit = true then ([], left, 1)
    else if o.price < t.lo ∨ t.hi < o.price then ([], left, 2)
    else if t.self = 0 ∨ o.owner ≠ t.owner then
      (⟨o.id, o.price, min left o.qty, false⟩ :: (mk t l (left - min left o.qty)).1, (mk t l (left - min left o.qty)).2)
    else if t.self = 1 then ([], left, 3)
    else if t.self = 3 then ([⟨o.id, o.price, o.qty, true⟩], left, 3)
    else (⟨o.id, o.price, o.qty, true⟩ :: (mk t l left).1, (mk t l left).2)
/-- The plan of a taker over all orders of a book. -/
def mkP (t : Tk) (os : List Ord) : List Fl × Int × Int :=
  if (t.side = 0 ∨ t.side = 1) ∧ 1 ≤ t.qty then mk t (Bk.srt (1 - t.side) os) t.qty else ([], t.qty, 1)
/-- What is known when the first orders are passed. -/
def Cont (t : Tk) (q : Int) (pre : List Ord) (fs : List Fl) (left : Int) : Prop :=
  ∀ rest, mk t (pre ++ rest) q = (fs ++ (mk t rest left).1, (mk t rest left).2)
theorem cont_nil (t : Tk) (q : Int) : Cont t q [] [] q := fun rest => rfl
section
variable {t : Tk} {q : Int} {pre : List Ord} {fs : List Fl} {left : Int} {o : Ord}
theorem Cont.all (h : Cont t q pre fs left) : mk t pre q = (fs, left, if left = 0 then 0 else 1) := by
  have h1 := h []
  rw [List.append_nil] at h1
  rw [h1]
  simp [mk]
theorem Cont.done (h : Cont t q pre fs left) (h0 : left = 0) : ∀ rest, mk t (pre ++ o :: rest) q = (fs, left, 0) := fun rest => by
  rw [h (o :: rest)]
  simp [mk, h0]
theorem Cont.worse (h : Cont t q pre fs left) (h0 : left ≠ 0) (h1 : wrs t.side o.price t.limit = true) : ∀ rest, mk t (pre ++ o :: rest) q = (fs, left, 1) := fun rest => by
  rw [h (o :: rest)]
  simp [mk, h0, h1]
theorem Cont.out (h : Cont t q pre fs left) (h0 : left ≠ 0) (h1 : wrs t.side o.price t.limit = false) (h2 : o.price < t.lo ∨ t.hi < o.price) : ∀ rest, mk t (pre ++ o :: rest) q = (fs, left, 2) := fun rest => by
  rw [h (o :: rest)]
  simp [mk, h0, h1, h2]
theorem Cont.trade (h : Cont t q pre fs left) (h0 : left ≠ 0) (h1 : wrs t.side o.price t.limit = false) (h2 : ¬ (o.price < t.lo ∨ t.hi < o.price)) (h3 : t.self = 0 ∨ o.owner ≠ t.owner) : Cont t q (pre ++ [o]) (fs ++ [⟨o.id, o.price, min left o.qty, false⟩]) (left - min left o.qty) := fun rest => by
  rw [List.append_assoc, List.singleton_append, h (o :: rest)]
  simp only [mk, h0, h1, if_neg, h2, if_pos h3, not_false_eq_true, Bool.false_eq_true, if_false]
  simp
theorem Cont.takerGoes (h : Cont t q pre fs left) (h0 : left ≠ 0) (h1 : wrs t.side o.price t.limit = false) (h2 : ¬ (o.price < t.lo ∨ t.hi < o.price)) (h3 : ¬ (t.self = 0 ∨ o.owner ≠ t.owner)) (h4 : t.self = 1) : ∀ rest, mk t (pre ++ o :: rest) q = (fs, left, 3) := fun rest => by
  rw [h (o :: rest)]
  simp only [mk, h0, h1, h2, if_neg h3, if_pos h4, Bool.false_eq_true, if_false]
  simp
theorem Cont.bothGo (h : Cont t q pre fs left) (h0 : left ≠ 0) (h1 : wrs t.side o.price t.limit = false) (h2 : ¬ (o.price < t.lo ∨ t.hi < o.price)) (h3 : ¬ (t.self = 0 ∨ o.owner ≠ t.owner)) (h4 : t.self ≠ 1) (h5 : t.self = 3) : ∀ rest, mk t (pre ++ o :: rest) q = (fs ++ [⟨o.id, o.price, o.qty, true⟩], left, 3) := fun rest => by
  rw [h (o :: rest)]
  simp only [mk, h0, h1, h2, if_neg h3, if_neg h4, if_pos h5, Bool.false_eq_true, if_false]
theorem Cont.makerGoes (h : Cont t q pre fs left) (h0 : left ≠ 0) (h1 : wrs t.side o.price t.limit = false) (h2 : ¬ (o.price < t.lo ∨ t.hi < o.price)) (h3 : ¬ (t.self = 0 ∨ o.owner ≠ t.owner)) (h4 : t.self ≠ 1) (h5 : t.self ≠ 3) : Cont t q (pre ++ [o]) (fs ++ [⟨o.id, o.price, o.qty, true⟩]) left := fun rest => by
  rw [List.append_assoc, List.singleton_append, h (o :: rest)]
  simp only [mk, h0, h1, h2, if_neg h3, if_neg h4, if_neg h5, Bool.false_eq_true, if_false]
  simp
end
/-- What is traded. -/
def trd : List Fl → Int
  | [] => 0
  | f :: l => (if f.gone = true then 0 else f.qty) + trd l
/-- What a fill is to its order. -/
structure Fok (t : Tk) (o : Ord) (f : Fl) : Prop where
  id : f.id = o.id
  price : f.price = o.price
  pos : 1 ≤ f.qty
  le : f.qty ≤ o.qty
  whole : f.gone = true → f.qty = o.qty
  band : t.lo ≤ f.price ∧ f.price ≤ t.hi
  lim : wrs t.side f.price t.limit = false
  gone : f.gone = decide (t.self ≠ 0 ∧ o.owner = t.owner)
/-- What a plan is. -/
structure Pok (t : Tk) (l : List Ord) (q : Int) (p : List Fl × Int × Int) : Prop where
  len : p.1.length ≤ l.length
  fill : ∀ i (h : i < p.1.length) (h' : i < l.length), Fok t l[i] p.1[i]
  full : ∀ i (h : i + 1 < p.1.length) (h' : i < l.length), p.1[i].qty = l[i].qty
  left : 0 ≤ p.2.1
  stop : p.2.2 = 0 ↔ p.2.1 = 0
  sum : trd p.1 + p.2.1 = q
  pos : ∀ f ∈ p.1, 1 ≤ f.qty
theorem pok_nil {t : Tk} {l : List Ord} {q st : Int} (hq : 0 ≤ q) (h : st = 0 ↔ q = 0) : Pok t l q ([], q, st) :=
  ⟨Nat.zero_le _, fun i h => absurd h (Nat.not_lt_zero _), fun i h => absurd h (Nat.not_lt_zero _), hq, h, by simp [trd], fun f h => by cases h⟩
theorem Pok.cons {t : Tk} {l : List Ord} {q q' : Int} {p : List Fl × Int × Int} {o : Ord} {f : Fl} (h : Pok t l q' p) (hf : Fok t o f) (hq : (if f.gone = true then 0 else f.qty) + q' = q) (hl : p.1 ≠ [] → f.qty = o.qty) : Pok t (o :: l) q (f :: p.1, p.2) where
  len := by simpa using h.len
  fill := fun i h1 h2 => by
    cases i with
    | zero => exact hf
    | succ i => exact h.fill i (by simpa using h1) (by simpa using h2)
  full := fun i h1 h2 => by
    cases i with
    | zero => exact hl (fun e => by rw [e] at h1; simp at h1)
    | succ i => exact h.full i (by simpa using h1) (by simpa using h2)
  left := h.left
  stop := h.stop
  sum := by
    have := h.sum
    simp only [trd]
    omega
  pos := fun g hg => by
    rcases List.mem_cons.1 hg with rfl | hg
    · exact hf.pos
    · exact h.pos g hg
theorem mk_zero (t : Tk) (l : List Ord) : (mk t l 0).1 = [] := by
  cases l <;> simp [mk]
theorem mk_ok (t : Tk) : ∀ (l : List Ord) (q : Int), 0 ≤ q → (∀ o ∈ l, 1 ≤ o.qty) → Pok t l q (mk t l q)
  | [], q, hq, _ => by
    unfold mk
    refine pok_nil hq ?_
    by_cases h : q = 0 <;> simp [h]
  | o :: l, q, hq, hl => by
    have hoq := hl o (by simp)
    have hll : ∀ o ∈ l, 1 ≤ o.qty := fun x hx => hl x (by simp [hx])
    unfold mk
    by_cases h0 : q = 0
    · rw [if_pos h0]
      exact pok_nil hq (by simp [h0])
    rw [if_neg h0]
    by_cases h1 : wrs t.side o.price t.limit = true
    · rw [if_pos h1]
      exact pok_nil hq (by simp [h0])
    rw [if_neg h1]
    have h1' : wrs t.side o.price t.limit = false := by simpa using h1
    by_cases h2 : o.price < t.lo ∨ t.hi < o.price
    · rw [if_pos h2]
      exact pok_nil hq (by simp [h0])
    rw [if_neg h2]
    by_cases h3 : t.self = 0 ∨ o.owner ≠ t.owner
    · rw [if_pos h3]
      have ih := mk_ok t l (q - min q o.qty) (by omega) hll
      refine ih.cons ⟨rfl, rfl, by show 1 ≤ min q o.qty; omega, by show min q o.qty ≤ o.qty; omega, fun e => (by cases e), ⟨by show t.lo ≤ o.price; omega, by show o.price ≤ t.hi; omega⟩, h1', ?_⟩ (by simp; omega) ?_
      · show false = _
        rw [eq_comm, decide_eq_false_iff_not]
        rcases h3 with h3 | h3
        · exact fun h => h.1 h3
        · exact fun h => h3 h.2
      · intro hne
        show min q o.qty = o.qty
        by_cases h4 : q - min q o.qty = 0
        · rw [h4, mk_zero] at hne
          exact absurd rfl hne
        · omega
    rw [if_neg h3]
    have h3' : t.self ≠ 0 ∧ o.owner = t.owner := ⟨fun e => h3 (.inl e), Decidable.byContradiction fun e => h3 (.inr e)⟩
    have hf : Fok t o ⟨o.id, o.price, o.qty, true⟩ := ⟨rfl, rfl, hoq, Int.le_refl _, fun _ => rfl, ⟨by show t.lo ≤ o.price; omega, by show o.price ≤ t.hi; omega⟩, h1', (decide_eq_true h3').symm⟩
    by_cases h4 : t.self = 1
    · rw [if_pos h4]
      exact pok_nil hq (by simp [h0])
    rw [if_neg h4]
    by_cases h5 : t.self = 3
    · rw [if_pos h5]
      exact (pok_nil (t := t) (l := l) (st := 3) hq (by simp [h0])).cons hf (by simp) (fun _ => rfl)
    rw [if_neg h5]
    exact (mk_ok t l q hq hll).cons hf (by simp) (fun _ => rfl)
end Sw
end Go.Proofs.YtbnappiaomiciaaGreat
namespace Go.Proofs.YtbnappiaomiciaaGreat
set_option linter.unusedVariables false
open Go.RowKit
namespace Bk
open Lad (keyF keys keys_at Up up_pw anyP fndP wsum sumL)
def osOf (ss : List Sl) : List Ord := ss.map (·.2)
theorem atp_map (n : Nat) (p : Int) (ss : List Sl) : (atp p (sid n ss)).map (·.2) = atO (n : Int) p (osOf ss) := by
  unfold atp sid atO osOf
  rw [List.filter_filter]
  induction ss with
  | nil => rfl
  | cons x l ih =>
    by_cases h1 : x.2.side = (n : Int) <;> by_cases h2 : x.2.price = p <;> simp_all
theorem bet_key {n a b : Int} (hn : n = 0 ∨ n = 1) (ha : 1 ≤ a ∧ a ≤ 1099511627776) (hb : 1 ≤ b ∧ b ≤ 1099511627776) (h : keyF n a < keyF n b) : bet n a b = true := by
  unfold keyF at h
  unfold bet
  simp only [decide_eq_true_eq]
  rcases hn with rfl | rfl
  · rw [if_pos rfl, if_pos rfl] at h
    unfold wrap64 at h
    exact .inl ⟨rfl, by omega⟩
  · rw [if_neg (by decide), if_neg (by decide)] at h
    exact .inr ⟨rfl, h⟩
section
variable {n : Nat} {most : Nat} {ss : List Sl} {ls : List Lvl} {u : Nat → Nat} {L : Nat → List Nat}
theorem ls_bet (hn : n < 2) (S : SI (n : Int) most (sid n ss) ls u L) : (ls.map (·.price)).Pairwise (fun a b => bet (n : Int) a b = true) := by
  refine List.pairwise_map.2 (((up_pw (n : Int) ls).1 S.up).imp_of_mem fun {a b} ha hb h => bet_key (by omega) (S.lv a ha).rng (S.lv b hb).rng h)
theorem ls_cover (S : SI (n : Int) most (sid n ss) ls u L) : ∀ o ∈ osOf ss, o.side = (n : Int) → o.price ∈ ls.map (·.price) := by
  intro o ho e
  obtain ⟨x, hx, rfl⟩ := List.mem_map.1 ho
  obtain ⟨l, hl, h⟩ := S.all x (List.mem_filter.2 ⟨hx, by simpa using e⟩)
  exact List.mem_map.2 ⟨l, hl, h⟩
theorem ls_srt (hn : n < 2) (S : SI (n : Int) most (sid n ss) ls u L) : srt (n : Int) (osOf ss) = ls.flatMap fun l => atO (n : Int) l.price (osOf ss) := by
  rw [srt_flat (ls_bet hn S) (ls_cover S), List.flatMap_map]
/-- The first order of a side: it heads the first level's queue. -/
theorem ls_front (hn : n < 2) (S : SI (n : Int) most (sid n ss) ls u L) {l : Lvl} {t : List Lvl} (h : ls = l :: t) : ∃ (k : Nat) (o : Ord) (q : List Nat) (r : List Ord), L l.queue.toNat = k :: q ∧ (k, o) ∈ ss ∧ o.price = l.price ∧ o.side = (n : Int) ∧ srt (n : Int) (osOf ss) = o :: r := by
  have hl : l ∈ ls := by rw [h]; simp
  have V := S.lv l hl
  have h1 := V.orders
  have h2 := V.some
  cases ha : atp l.price (sid n ss) with
  | nil => rw [ha] at h1; simp at h1; omega
  | cons x xs =>
    have hx : x ∈ atp l.price (sid n ss) := by rw [ha]; simp
    have hx2 := List.mem_filter.1 hx
    have hx3 := List.mem_filter.1 hx2.1
    have hm := atp_map n l.price ss
    rw [ha, List.map_cons] at hm
    refine ⟨x.1, x.2, xs.map (·.1), xs.map (·.2) ++ t.flatMap fun l => atO (n : Int) l.price (osOf ss), by rw [V.list, ha]; rfl, hx3.1, by simpa using hx2.2, by simpa using hx3.2, ?_⟩
    rw [ls_srt hn S, h, List.flatMap_cons, ← hm]
    simp
theorem ls_none (hn : n < 2) (S : SI (n : Int) most (sid n ss) [] u L) : srt (n : Int) (osOf ss) = [] := by
  rw [ls_srt hn S]
  rfl
theorem ls_any (S : SI (n : Int) most (sid n ss) ls u L) (p : Int) : anyP p ls = (osOf ss).any fun o => decide (o.side = (n : Int) ∧ o.price = p) := by
  rw [Bool.eq_iff_iff]
  unfold anyP
  rw [List.any_eq_true, List.any_eq_true]
  constructor
  · rintro ⟨l, hl, h⟩
    simp only [decide_eq_true_eq] at h
    have V := S.lv l hl
    have h1 := V.orders
    have h2 := V.some
    cases ha : atp l.price (sid n ss) with
    | nil => rw [ha] at h1; simp at h1; omega
    | cons x xs =>
      have hx : x ∈ atp l.price (sid n ss) := by rw [ha]; simp
      have hx2 := List.mem_filter.1 hx
      have hx3 := List.mem_filter.1 hx2.1
      refine ⟨x.2, List.mem_map.2 ⟨x, hx3.1, rfl⟩, ?_⟩
      have e1 : x.2.price = l.price := by simpa using hx2.2
      have e2 : x.2.side = (n : Int) := by simpa using hx3.2
      simp [e1, e2, h]
  · rintro ⟨o, ho, h⟩
    simp only [decide_eq_true_eq] at h
    obtain ⟨l, hl, e⟩ := List.mem_map.1 (ls_cover S o ho h.1)
    exact ⟨l, hl, by simpa [h.2] using e⟩
/-- The prices of a side, each once, in the order in which they came. -/
def dst (l : List Int) : List Int := l.foldl (fun acc p => if p ∈ acc then acc else acc ++ [p]) []
theorem dst_fold : ∀ (l acc : List Int), acc.Nodup → (l.foldl (fun acc p => if p ∈ acc then acc else acc ++ [p]) acc).Nodup ∧ ∀ q, q ∈ l.foldl (fun acc p => if p ∈ acc then acc else acc ++ [p]) acc ↔ q ∈ acc ∨ q ∈ l
  | [], acc, h => ⟨h, fun q => by simp⟩
  | p :: l, acc, h => by
    rw [List.foldl_cons]
    by_cases hp : p ∈ acc
    · rw [if_pos hp]
      obtain ⟨h1, h2⟩ := dst_fold l acc h
      refine ⟨h1, fun q => ?_⟩
      rw [h2, List.mem_cons]
      constructor
      · rintro (h | h)
        · exact .inl h
        · exact .inr (.inr h)
      · rintro (h | rfl | h)
        · exact .inl h
        · exact .inl hp
        · exact .inr h
    · rw [if_neg hp]
      obtain ⟨h1, h2⟩ := dst_fold l (acc ++ [p]) (by
        rw [List.nodup_append]
        exact ⟨h, by simp, fun a ha b hb e => by rw [List.mem_singleton] at hb; subst hb; subst e; exact hp ha⟩)
      refine ⟨h1, fun q => ?_⟩
      rw [h2]
      simp only [List.mem_append, List.mem_cons, List.not_mem_nil, or_false]
      exact or_assoc
theorem dst_nodup (l : List Int) : (dst l).Nodup := (dst_fold l [] List.nodup_nil).1
theorem dst_mem (l : List Int) (q : Int) : q ∈ dst l ↔ q ∈ l := by
  refine ((dst_fold l [] List.nodup_nil).2 q).trans ?_
  simp
def prices (n : Int) (os : List Ord) : List Int := (sdO n os).map (·.price)
theorem ls_count (hn : n < 2) (S : SI (n : Int) most (sid n ss) ls u L) : ls.length = (dst (prices (n : Int) (osOf ss))).length := by
  have hnd : (ls.map (·.price)).Nodup := (ls_bet hn S).imp (fun {a b} h e => by rw [e, bet_self] at h; cases h)
  have hp : (ls.map (·.price)).Perm (dst (prices (n : Int) (osOf ss))) := (List.perm_ext_iff_of_nodup hnd (dst_nodup _)).2 fun q => by
    rw [dst_mem]
    constructor
    · intro hq
      obtain ⟨l, hl, rfl⟩ := List.mem_map.1 hq
      have h1 : anyP l.price ls = true := by
        unfold anyP
        rw [List.any_eq_true]
        exact ⟨l, hl, by simp⟩
      rw [ls_any S, List.any_eq_true] at h1
      obtain ⟨o, ho, h2⟩ := h1
      simp only [decide_eq_true_eq] at h2
      exact List.mem_map.2 ⟨o, List.mem_filter.2 ⟨ho, by simpa using h2.1⟩, h2.2⟩
    · intro hq
      obtain ⟨o, ho, rfl⟩ := List.mem_map.1 hq
      have h1 := List.mem_filter.1 ho
      exact ls_cover S o h1.1 (by simpa using h1.2)
  have := hp.length_eq
  rw [List.length_map] at this
  exact this
end
/-- Does a price fit in a side's levels? -/
def fitsO (most : Nat) (n p : Int) (os : List Ord) : Bool := decide (n = 0 ∨ n = 1) && (os.any (fun o => decide (o.side = n ∧ o.price = p)) || decide ((dst (prices n os)).length < most))
end Bk
end Go.Proofs.YtbnappiaomiciaaGreat
