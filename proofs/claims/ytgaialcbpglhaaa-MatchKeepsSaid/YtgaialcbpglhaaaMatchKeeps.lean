/- This text proves plain laws on what an order that comes does: whether it may, what it trades, whether what is left rests. It has no conditions but those that it states. This text proves what the small functions of the package match answer. It has no conditions but those that it states. This text proves small general laws: a region's rest in a round, and results that lie in cells. It has no conditions but those that it states. This text proves what match.meets answers: the price of the first order of the other side that a plan leaves. It has no conditions but those that it states. This text proves what an order that comes would trade, and whether what is left rests: contracts of match.Entry's plan and rests. It has no conditions but those that it states. This text proves plain laws on what comes of an order: what each type promises, and that its quantity is kept. It has no conditions but those that it states. This text proves plain laws on the orders that an incoming order leaves: none of them cross, none is there twice, and how many there are. It has no conditions but those that it states. This text proves plain laws on a book behind an order that came: that it is not crossed, and that what rests is found. It has no conditions but those that it states. This text proves what the first fault of a row of questions is: the contract of match.first, whatever functions are handed in. It has no conditions but those that it states. This text proves contracts of the packages short and damperref24 (Trips, Covers, May, Least), and of the helpers of damperlaw24. They have no conditions but those that they state. This text proves laws for a region whose order is open and that holds one call that makes memory: loads that need not stand ahead of it, and quiet operations behind it. It has no conditions but those that it states. This text proves what match.Check answers of a held book and any order that comes. It has no conditions but those that it states. This text proves what match.Enter makes of a held book and any order that comes. It has no conditions but those that it states. This text proves that the example of the chapter on matching comes out, and how a statement hands an entry on. It has no conditions but those that it states. This text proves MatchKeeps: whatever the input, the law returns true. It has no conditions. -/
import Derived.Test.YtgaialcbpglhaaaSwA
import Derived.Test.YtgaialcbpglhaaaSwT
import Derived.Test.YtgaialcbpglhaaaBkPl
import Derived.Test.YtgaialcbpglhaaaSwV
import Derived.Test.YtgaialcbpglhaaaRound
import Derived.Test.YtgaialcbpglhaaaQuiet
import Derived.Test.YtgaialcbpglhaaaFix
import Derived.Deep.RegionWith
import Derived.Test.YtgaialcbpglhaaaSink
import Derived.Test.YtgaialcbpglhaaaSwP
import Derived.Test.YtgaialcbpglhaaaSwB
import Derived.Deep.DeepCutAuto
namespace Go.Proofs.Ytgaialcbpglhaaa
set_option linter.unusedVariables false
namespace Ma
open Bk (bet srt sdO fndI roomO addF addO frontO rmI redO redF rdI less)
open Sw (Tk Fl mk mkP wrs trd appF Pok rchO)
/-- An order that comes. -/
structure En where
  (o : Ord) (typ lo hi self : Int)
def En.cells (e : En) : List Value := e.o.cells ++ [.int .i64 e.typ, .int .i64 e.lo, .int .i64 e.hi, .int .i64 e.self]
def En.arr (e : En) : Array Value := e.cells.toArray
@[go_sem] theorem En.arr_size (e : En) : e.arr.size = 11 := rfl
@[go_sem] theorem En.arr_0 (e : En) : e.arr[0]? = some (.int .i64 e.o.id) := rfl
@[go_sem] theorem En.arr_1 (e : En) : e.arr[1]? = some (.int .i64 e.o.owner) := rfl
@[go_sem] theorem En.arr_2 (e : En) : e.arr[2]? = some (.int .i64 e.o.side) := rfl
@[go_sem] theorem En.arr_3 (e : En) : e.arr[3]? = some (.int .i64 e.o.price) := rfl
@[go_sem] theorem En.arr_4 (e : En) : e.arr[4]? = some (.int .i64 e.o.qty) := rfl
@[go_sem] theorem En.arr_5 (e : En) : e.arr[5]? = some (.int .i64 e.o.flags) := rfl
@[go_sem] theorem En.arr_6 (e : En) : e.arr[6]? = some (.int .i64 e.o.seq) := rfl
@[go_sem] theorem En.arr_7 (e : En) : e.arr[7]? = some (.int .i64 e.typ) := rfl
@[go_sem] theorem En.arr_8 (e : En) : e.arr[8]? = some (.int .i64 e.lo) := rfl
@[go_sem] theorem En.arr_9 (e : En) : e.arr[9]? = some (.int .i64 e.hi) := rfl
@[go_sem] theorem En.arr_10 (e : En) : e.arr[10]? = some (.int .i64 e.self) := rfl
/-- Is a price beyond the band? -/
def beyF (s lo hi p : Int) : Bool := decide ((s = 0 ∧ hi < p) ∨ (s = 1 ∧ p < lo))
/-- Is a flag not set that lets an order rest at the band's edge? -/
def fixedF (f : Int) : Bool := bits .and .i64 f 4 == 0
def edgeF (e : En) : Int := if fixedF e.o.flags = true ∨ beyF e.o.side e.lo e.hi e.o.price = false then e.o.price else if e.o.side = 0 then e.hi else e.lo
def limF (e : En) : Int := if e.typ = 2 then 0 else e.o.price
def staysF (e : En) : Bool := decide (e.typ = 1 ∨ e.typ = 5)
def tkE (e : En) : Tk := ⟨e.o.side, e.o.owner, limF e, e.o.qty, e.lo, e.hi, e.self⟩
/-- The price of the first order that a plan leaves. -/
def meetsO : List Fl → List Ord → Option Int
  | _, [] => none
  | [], o :: _ => some o.price
  | f :: fs, o :: l => if f.id = o.id ∧ f.qty = o.qty then meetsO fs l else some o.price
def openF (s edge : Int) : Option Int → Bool
  | none => true
  | some q => bet s q edge
def restsF (os : List Ord) (e : En) (p : List Fl × Int × Int) : Bool :=
  decide (p.2.1 ≠ 0 ∧ p.2.2 ≠ 3 ∧ staysF e = true ∧ 1 ≤ edgeF e ∧ edgeF e ≤ 1099511627776 ∧ beyF e.o.side e.lo e.hi (edgeF e) = false) && openF e.o.side (edgeF e) (meetsO p.1 (srt (1 - e.o.side) os))
def rangedF (e : En) : Bool := if e.typ = 2 then decide (e.o.price ≠ 0) else decide (¬ (1 ≤ e.o.price ∧ e.o.price ≤ 1099511627776))
def whyF (e : En) (p : List Fl × Int × Int) : Int := if p.2.1 = 0 then 0 else if p.2.2 = 3 then 4 else if p.2.2 = 2 ∨ staysF e = true then 3 else 2
/-- What is wrong, question by question. -/
def askQ (N most : Nat) (os : List Ord) (e : En) : Nat → Bool
  | 0 => decide ((e.o.side ≠ 0 ∧ e.o.side ≠ 1) ∨ e.typ < 1 ∨ 5 < e.typ)
  | 1 => decide (¬ (1 ≤ e.o.qty ∧ e.o.qty ≤ 4294967296)) || rangedF e
  | 2 => (fndI e.o.id os).isSome
  | 3 => decide (e.typ = 5) && rchO e.o.side e.o.price os
  | 4 => decide (e.typ = 4) && decide (0 < (mkP (tkE e) os).2.1)
  | _ => restsF os e (mkP (tkE e) os) && !roomO N most e.o.side (edgeF e) os
def fauK : Nat → Int
  | 0 => 1
  | 1 => 9
  | 2 => 6
  | 3 => 12
  | 4 => 13
  | _ => 7
def fstQ (q : Nat → Bool) (F : Nat → Int) : Nat → Nat → Int
  | _, 0 => 0
  | k, m + 1 => if q k = true then F k else fstQ q F (k + 1) m
def checkF (N most : Nat) (os : List Ord) (e : En) : Int := fstQ (askQ N most os e) fauK 0 6
/-- What comes of an order. -/
structure Rs where
  (fault : Int) (fills : List Fl) (rest : Ord) (gone why : Int)
def restO (e : En) (left : Int) : Ord := { e.o with price := edgeF e, qty := left }
def enterF (N most : Nat) (os : List Ord) (e : En) : Rs × List Ord :=
  if checkF N most os e ≠ 0 then (⟨checkF N most os e, [], Are.ord0, 0, 0⟩, os)
  else
    if restsF os e (mkP (tkE e) os) = true then
      (⟨0, (mkP (tkE e) os).1, restO e (mkP (tkE e) os).2.1, 0, 0⟩, addO N most (appF (mkP (tkE e) os).1 os).2 (restO e (mkP (tkE e) os).2.1))
    else (⟨0, (mkP (tkE e) os).1, Are.ord0, (mkP (tkE e) os).2.1, whyF e (mkP (tkE e) os)⟩, (appF (mkP (tkE e) os).1 os).2)
/-- What is known when nothing is wrong. -/
structure Good (N most : Nat) (os : List Ord) (e : En) : Prop where
  side : e.o.side = 0 ∨ e.o.side = 1
  typ : 1 ≤ e.typ ∧ e.typ ≤ 5
  qty : 1 ≤ e.o.qty ∧ e.o.qty ≤ 4294967296
  ranged : rangedF e = false
  new : fndI e.o.id os = none
  post : e.typ = 5 → rchO e.o.side e.o.price os = false
  all : e.typ = 4 → ¬ 0 < (mkP (tkE e) os).2.1
  room : restsF os e (mkP (tkE e) os) = true → roomO N most e.o.side (edgeF e) os = true
theorem fst_zero {q : Nat → Bool} {F : Nat → Int} (hF : ∀ k, F k ≠ 0) : ∀ (m k : Nat), fstQ q F k m = 0 → ∀ j, k ≤ j → j < k + m → q j = false
  | 0, k, _, j, h1, h2 => absurd h2 (by omega)
  | m + 1, k, h, j, h1, h2 => by
    unfold fstQ at h
    by_cases h0 : q k = true
    · rw [if_pos h0] at h
      exact absurd h (hF k)
    · rw [if_neg h0] at h
      by_cases hj : j = k
      · rw [hj]; simpa using h0
      · exact fst_zero hF m (k + 1) h j (by omega) (by omega)
theorem fau_ne (k : Nat) : fauK k ≠ 0 := by
  unfold fauK
  split <;> decide
theorem good {N most : Nat} {os : List Ord} {e : En} (h : checkF N most os e = 0) : Good N most os e := by
  have H := fst_zero fau_ne 6 0 h
  have h0 : decide ((e.o.side ≠ 0 ∧ e.o.side ≠ 1) ∨ e.typ < 1 ∨ 5 < e.typ) = false := H 0 (by omega) (by omega)
  have h1 : (decide (¬ (1 ≤ e.o.qty ∧ e.o.qty ≤ 4294967296)) || rangedF e) = false := H 1 (by omega) (by omega)
  have h2 : (fndI e.o.id os).isSome = false := H 2 (by omega) (by omega)
  have h3 : (decide (e.typ = 5) && rchO e.o.side e.o.price os) = false := H 3 (by omega) (by omega)
  have h4 : (decide (e.typ = 4) && decide (0 < (mkP (tkE e) os).2.1)) = false := H 4 (by omega) (by omega)
  have h5 : (restsF os e (mkP (tkE e) os) && !roomO N most e.o.side (edgeF e) os) = false := H 5 (by omega) (by omega)
  have k0 := of_decide_eq_false h0
  rw [Bool.or_eq_false_iff] at h1
  have k1 := of_decide_eq_false h1.1
  refine ⟨by omega, by omega, by omega, h1.2, by simpa using h2, fun ht => ?_, fun ht hl => ?_, fun hr => ?_⟩
  · rw [decide_eq_true ht, Bool.true_and] at h3
    exact h3
  · rw [decide_eq_true ht, decide_eq_true hl] at h4
    cases h4
  · rw [hr, Bool.true_and, Bool.not_eq_false'] at h5
    exact h5
theorem Good.plan {N most : Nat} {os : List Ord} {e : En} (G : Good N most os e) : mkP (tkE e) os = Sw.mk (tkE e) (srt (1 - e.o.side) os) e.o.qty := by
  unfold mkP
  rw [if_pos ⟨G.side, G.qty.1⟩]
  rfl
theorem Good.pok {N most : Nat} {os : List Ord} {e : En} (G : Good N most os e) (hok : ∀ o ∈ os, 1 ≤ o.qty) : Pok (tkE e) (srt (1 - e.o.side) os) e.o.qty (mkP (tkE e) os) := by
  rw [G.plan]
  exact Sw.mk_ok _ _ _ (by have := G.qty.1; omega) (fun o ho => hok o ((List.mem_filter.1 ((Bk.srt_perm _ _).mem_iff.1 ho)).1))
/-- A post-only order trades nothing. -/
theorem Good.post_none {N most : Nat} {os : List Ord} {e : En} (G : Good N most os e) (h : e.typ = 5) : (mkP (tkE e) os).1 = [] := by
  rw [G.plan]
  have h1 := G.post h
  unfold rchO frontO at h1
  rw [decide_eq_true G.side, if_pos (by have := G.side; omega), Bool.true_and] at h1
  cases hl : srt (1 - e.o.side) os with
  | nil => rfl
  | cons o l =>
    rw [hl] at h1
    simp only [List.head?_cons, Option.isSome_some, Option.getD_some, Bool.true_and, Bool.not_eq_false'] at h1
    unfold Sw.mk
    have hq : ¬ e.o.qty = 0 := by have := G.qty.1; omega
    have hlim : (tkE e).limit = e.o.price := by show limF e = _; unfold limF; rw [if_neg (by omega)]
    rw [if_neg hq, if_pos (by rw [hlim]; exact h1)]
/-- What is left does not rest where no more than a moment is asked. -/
theorem rests_left {os : List Ord} {e : En} {p : List Fl × Int × Int} (h : restsF os e p = true) : p.2.1 ≠ 0 ∧ staysF e = true ∧ 1 ≤ edgeF e ∧ edgeF e ≤ 1099511627776 ∧ beyF e.o.side e.lo e.hi (edgeF e) = false ∧ openF e.o.side (edgeF e) (meetsO p.1 (srt (1 - e.o.side) os)) = true := by
  unfold restsF at h
  rw [Bool.and_eq_true, decide_eq_true_eq] at h
  exact ⟨h.1.1, h.1.2.2.1, h.1.2.2.2.1, h.1.2.2.2.2.1, h.1.2.2.2.2.2, h.2⟩
end Ma
end Go.Proofs.Ytgaialcbpglhaaa
namespace Go.Proofs.Ytgaialcbpglhaaa
set_option linter.unusedVariables false
open Go.RowKit
namespace Ma
set_option maxHeartbeats 4000000
set_option maxRecDepth 10000
open Bk (bet Bs osOf srt Sl)
open Sw (Tk Fl mk mkP MkPost)
theorem beyond_any (e : En) (p : Int) (w : World) : Calls Try.prog 133 #[.agg e.arr, .int .i64 p] w fun x w' => x = .returned (.bool (beyF e.o.side e.lo e.hi p)) ∧ Below w.heap.size w w' := by
  go_enter Try.func133, Try.ntmps133
  go_wp2_with fail
  all_goals go_ret
  all_goals refine ⟨ret_bool ?_, by (repeat (first | with_reducible exact Below.refl _ _ | (with_reducible assumption) | (with_reducible refine below_alloc ?_ _) | (with_reducible refine below_ext (w1 := ?_) ?_ ?_; rotate_left 2; (with_reducible assumption)) | (with_reducible refine Below.setCell ?_ ?_ _; rotate_left; ((try simp) <;> omega)) | (with_reducible refine Below.drew ?_) | (with_reducible refine below_drewN ?_ _) | fail))⟩
  all_goals (simp_all [beyF] <;> omega)
theorem limit_any (e : En) (w : World) : Calls Try.prog 131 #[.agg e.arr] w fun x w' => x = .returned (.int .i64 (limF e)) ∧ Below w.heap.size w w' := by
  by_cases h : e.typ = 2
  · have k : (e.typ == 2) = true := by simp [h]
    have HL : Hid (limF e = 0) := Lib.hid (by unfold limF; rw [if_pos h])
    clear h
    go_enter Try.func131, Try.ntmps131
    go_wp2_with fail
    go_ret
    exact ⟨by rw [HL.out]; rfl, by (repeat (first | with_reducible exact Below.refl _ _ | (with_reducible assumption) | (with_reducible refine below_alloc ?_ _) | (with_reducible refine below_ext (w1 := ?_) ?_ ?_; rotate_left 2; (with_reducible assumption)) | (with_reducible refine Below.setCell ?_ ?_ _; rotate_left; ((try simp) <;> omega)) | (with_reducible refine Below.drew ?_) | (with_reducible refine below_drewN ?_ _) | fail))⟩
  · have k : (e.typ == 2) = false := by simp [h]
    have HL : Hid (limF e = e.o.price) := Lib.hid (by unfold limF; rw [if_neg h])
    clear h
    go_enter Try.func131, Try.ntmps131
    go_wp2_with fail
    go_ret
    exact ⟨by rw [HL.out]; rfl, by (repeat (first | with_reducible exact Below.refl _ _ | (with_reducible assumption) | (with_reducible refine below_alloc ?_ _) | (with_reducible refine below_ext (w1 := ?_) ?_ ?_; rotate_left 2; (with_reducible assumption)) | (with_reducible refine Below.setCell ?_ ?_ _; rotate_left; ((try simp) <;> omega)) | (with_reducible refine Below.drew ?_) | (with_reducible refine below_drewN ?_ _) | fail))⟩
theorem stays_any (e : En) (w : World) : Calls Try.prog 132 #[.agg e.arr] w fun x w' => x = .returned (.bool (staysF e)) ∧ Below w.heap.size w w' := by
  go_enter Try.func132, Try.ntmps132
  go_wp2_with fail
  all_goals go_ret
  all_goals refine ⟨ret_bool ?_, by (repeat (first | with_reducible exact Below.refl _ _ | (with_reducible assumption) | (with_reducible refine below_alloc ?_ _) | (with_reducible refine below_ext (w1 := ?_) ?_ ?_; rotate_left 2; (with_reducible assumption)) | (with_reducible refine Below.setCell ?_ ?_ _; rotate_left; ((try simp) <;> omega)) | (with_reducible refine Below.drew ?_) | (with_reducible refine below_drewN ?_ _) | fail))⟩
  all_goals (unfold staysF; by_cases h1 : e.typ = 1 <;> by_cases h5 : e.typ = 5 <;> simp_all)
theorem edge_any (e : En) (w : World) : Calls Try.prog 86 #[.agg e.arr] w fun x w' => x = .returned (.int .i64 (edgeF e)) ∧ Below w.heap.size w w' := by
  have HB := Lib.hid (fun W => beyond_any e e.o.price W)
  cases h4 : fixedF e.o.flags with
  | true =>
    have HE : Hid (edgeF e = e.o.price) := Lib.hid (by unfold edgeF; rw [if_pos (.inl h4)])
    unfold fixedF at h4
    go_enter Try.func86, Try.ntmps86
    go_wp2_with fail
    go_ret
    exact ⟨by rw [HE.out]; rfl, by (repeat (first | with_reducible exact Below.refl _ _ | (with_reducible assumption) | (with_reducible refine below_alloc ?_ _) | (with_reducible refine below_ext (w1 := ?_) ?_ ?_; rotate_left 2; (with_reducible assumption)) | (with_reducible refine Below.setCell ?_ ?_ _; rotate_left; ((try simp) <;> omega)) | (with_reducible refine Below.drew ?_) | (with_reducible refine below_drewN ?_ _) | fail))⟩
  | false =>
    cases hb : beyF e.o.side e.lo e.hi e.o.price with
    | false =>
      have HE : Hid (edgeF e = e.o.price) := Lib.hid (by unfold edgeF; rw [if_pos (.inr hb)])
      rw [hb] at HB
      clear hb
      unfold fixedF at h4
      go_enter Try.func86, Try.ntmps86
      go_wp2_with (first | ((with_reducible show wpList _ _ _ (⟨_, .load 80 _, _, _, _, _⟩ :: _) _ _); refine wpList_load_ho 80 _ (by rfl) (by rfl) ?_ (.pointer (some ⟨_, 0, none⟩)) (by rfl) ?_ _ Try.underlying80 rfl ?_ ?_; rotate_left; (next => (repeat (first | (with_reducible refine BlkAt.new _ _ _ _ ?_; ((try simp) <;> omega)) | (with_reducible assumption) | (with_reducible refine Blk.at (t := ?_) ?_; rotate_left; with_reducible assumption) | with_reducible refine BlkAt.alloc ?_ _ | with_reducible refine BlkAt.drew ?_ | (with_reducible refine BlkAt.setSame ?_ _ _) | (with_reducible refine BlkAt.setCell ?_ ?_ _; rotate_left; ((try simp) <;> omega)) | (with_reducible refine BlkAt.ext (w := ?_) ?_ ?_; rotate_left 2; (with_reducible assumption)) | fail))); (next => kernel_rfl)) | (go_at_call 133; refine (HB.out _).mono ?_; rintro e w2 ⟨rfl, hb2⟩; (have hcb2 := fun (b o : Nat) (h : b < _) => hb2.cell (p := ⟨b, o, none⟩) h)) | fail)
      go_ret
      exact ⟨by rw [HE.out]; rfl, by (repeat (first | with_reducible exact Below.refl _ _ | (with_reducible assumption) | (with_reducible refine below_alloc ?_ _) | (with_reducible refine below_ext (w1 := ?_) ?_ ?_; rotate_left 2; (with_reducible assumption)) | (with_reducible refine Below.setCell ?_ ?_ _; rotate_left; ((try simp) <;> omega)) | (with_reducible refine Below.drew ?_) | (with_reducible refine below_drewN ?_ _) | fail))⟩
    | true =>
      have HE : Hid (edgeF e = if e.o.side = 0 then e.hi else e.lo) := Lib.hid (by unfold edgeF; rw [if_neg (by rw [h4, hb]; simp)])
      rw [hb] at HB
      clear hb
      unfold fixedF at h4
      by_cases hs : e.o.side = 0
      · have k0 : (e.o.side == 0) = true := by simp [hs]
        rw [if_pos hs] at HE
        clear hs
        go_enter Try.func86, Try.ntmps86
        go_wp2_with (first | ((with_reducible show wpList _ _ _ (⟨_, .load 80 _, _, _, _, _⟩ :: _) _ _); refine wpList_load_ho 80 _ (by rfl) (by rfl) ?_ (.pointer (some ⟨_, 0, none⟩)) (by rfl) ?_ _ Try.underlying80 rfl ?_ ?_; rotate_left; (next => (repeat (first | (with_reducible refine BlkAt.new _ _ _ _ ?_; ((try simp) <;> omega)) | (with_reducible assumption) | (with_reducible refine Blk.at (t := ?_) ?_; rotate_left; with_reducible assumption) | with_reducible refine BlkAt.alloc ?_ _ | with_reducible refine BlkAt.drew ?_ | (with_reducible refine BlkAt.setSame ?_ _ _) | (with_reducible refine BlkAt.setCell ?_ ?_ _; rotate_left; ((try simp) <;> omega)) | (with_reducible refine BlkAt.ext (w := ?_) ?_ ?_; rotate_left 2; (with_reducible assumption)) | fail))); (next => kernel_rfl)) | (go_at_call 133; refine (HB.out _).mono ?_; rintro e w2 ⟨rfl, hb2⟩; (have hcb2 := fun (b o : Nat) (h : b < _) => hb2.cell (p := ⟨b, o, none⟩) h)) | fail)
        go_ret
        exact ⟨by rw [HE.out]; rfl, by (repeat (first | with_reducible exact Below.refl _ _ | (with_reducible assumption) | (with_reducible refine below_alloc ?_ _) | (with_reducible refine below_ext (w1 := ?_) ?_ ?_; rotate_left 2; (with_reducible assumption)) | (with_reducible refine Below.setCell ?_ ?_ _; rotate_left; ((try simp) <;> omega)) | (with_reducible refine Below.drew ?_) | (with_reducible refine below_drewN ?_ _) | fail))⟩
      · have k0 : (e.o.side == 0) = false := by simp [hs]
        rw [if_neg hs] at HE
        clear hs
        go_enter Try.func86, Try.ntmps86
        go_wp2_with (first | ((with_reducible show wpList _ _ _ (⟨_, .load 80 _, _, _, _, _⟩ :: _) _ _); refine wpList_load_ho 80 _ (by rfl) (by rfl) ?_ (.pointer (some ⟨_, 0, none⟩)) (by rfl) ?_ _ Try.underlying80 rfl ?_ ?_; rotate_left; (next => (repeat (first | (with_reducible refine BlkAt.new _ _ _ _ ?_; ((try simp) <;> omega)) | (with_reducible assumption) | (with_reducible refine Blk.at (t := ?_) ?_; rotate_left; with_reducible assumption) | with_reducible refine BlkAt.alloc ?_ _ | with_reducible refine BlkAt.drew ?_ | (with_reducible refine BlkAt.setSame ?_ _ _) | (with_reducible refine BlkAt.setCell ?_ ?_ _; rotate_left; ((try simp) <;> omega)) | (with_reducible refine BlkAt.ext (w := ?_) ?_ ?_; rotate_left 2; (with_reducible assumption)) | fail))); (next => kernel_rfl)) | (go_at_call 133; refine (HB.out _).mono ?_; rintro e w2 ⟨rfl, hb2⟩; (have hcb2 := fun (b o : Nat) (h : b < _) => hb2.cell (p := ⟨b, o, none⟩) h)) | fail)
        go_ret
        exact ⟨by rw [HE.out]; rfl, by (repeat (first | with_reducible exact Below.refl _ _ | (with_reducible assumption) | (with_reducible refine below_alloc ?_ _) | (with_reducible refine below_ext (w1 := ?_) ?_ ?_; rotate_left 2; (with_reducible assumption)) | (with_reducible refine Below.setCell ?_ ?_ _; rotate_left; ((try simp) <;> omega)) | (with_reducible refine Below.drew ?_) | (with_reducible refine below_drewN ?_ _) | fail))⟩
theorem why_any (e : En) (v : Value) (hv : v.cells = #[v]) (p : List Fl × Int × Int) (w : World) : Calls Try.prog 85 #[.agg e.arr, .agg #[v, .int .i64 p.2.1, .int .i64 p.2.2]] w fun x w' => x = .returned (.int .i64 (whyF e p)) ∧ Below w.heap.size w w' := by
  have HS := Lib.hid (fun W => stays_any e W)
  obtain ⟨fs, left, stop⟩ := p
  have hw : whyF e (fs, left, stop) = if left = 0 then 0 else if stop = 3 then 4 else if stop = 2 then 3 else if staysF e = true then 3 else 2 := by
    unfold whyF
    by_cases h : stop = 2 <;> simp [h]
  rw [hw]
  simp only
  clear hw
  generalize staysF e = z at *
  cases z
  all_goals
    go_enter Try.func85, Try.ntmps85
    go_wp2_with (first | ((with_reducible show wpList _ _ _ (⟨_, .load 80 _, _, _, _, _⟩ :: _) _ _); refine wpList_load_ho 80 _ (by rfl) (by rfl) ?_ (.pointer (some ⟨_, 0, none⟩)) (by rfl) ?_ _ Try.underlying80 rfl ?_ ?_; rotate_left; (next => (repeat (first | (with_reducible refine BlkAt.new _ _ _ _ ?_; ((try simp) <;> omega)) | (with_reducible assumption) | (with_reducible refine Blk.at (t := ?_) ?_; rotate_left; with_reducible assumption) | with_reducible refine BlkAt.alloc ?_ _ | with_reducible refine BlkAt.drew ?_ | (with_reducible refine BlkAt.setSame ?_ _ _) | (with_reducible refine BlkAt.setCell ?_ ?_ _; rotate_left; ((try simp) <;> omega)) | (with_reducible refine BlkAt.ext (w := ?_) ?_ ?_; rotate_left 2; (with_reducible assumption)) | fail))); (next => kernel_rfl)) | (go_at_call 132; refine (HS.out _).mono ?_; rintro e w2 ⟨rfl, hb2⟩; (have hcb2 := fun (b o : Nat) (h : b < _) => hb2.cell (p := ⟨b, o, none⟩) h)) | fail)
    all_goals go_ret
    all_goals refine ⟨ret_int ?_, by (repeat (first | with_reducible exact Below.refl _ _ | (with_reducible assumption) | (with_reducible refine below_alloc ?_ _) | (with_reducible refine below_ext (w1 := ?_) ?_ ?_; rotate_left 2; (with_reducible assumption)) | (with_reducible refine Below.setCell ?_ ?_ _; rotate_left; ((try simp) <;> omega)) | (with_reducible refine Below.drew ?_) | (with_reducible refine below_drewN ?_ _) | fail))⟩
    all_goals simp_all
end Ma
end Go.Proofs.Ytgaialcbpglhaaa
namespace Go.Proofs.Ytgaialcbpglhaaa
set_option linter.unusedVariables false
open Go.RowKit
theorem list_roundB {n l : Nat} {P : Program} {ops : Array Oper} {Q : Exit → Act → World → Prop} {r : List Oper} {a : Act} {w : World} (hQ : ¬ LetsOut Q) (hc : calmB r.toArray = true) (h : wpList P ops Q r a w) : wpListIn (Fence.wide.inRound l) n P ops Q r a w :=
  list_round hQ r a w (fun o ho c hc' => by
    obtain ⟨i, hi⟩ := List.mem_iff_getElem?.1 ho
    exact calmB_spec hc (i := i) (by simpa using hi) c hc') h
theorem results_cell_sc {fn : Func} {p : Tmp} {ty : TypeId} (h : fn.results = #[.cell p ty]) (tmps : Array Value) (P : Program) (w : World) (g i : Nat) (v : Value) (hp : tmps.getD p undef = .pointer (some ⟨g, i, none⟩)) (hs : scalarB P ty = true) (hc : w.cell? ⟨g, i, none⟩ = some v) :
    (results fn tmps).run P w = .ok v w := by
  have hp' : tmps[p]?.getD undef = .pointer (some ⟨g, i, none⟩) := by simpa using hp
  have h1 := run_load_scalar (P := P) w ty ⟨g, i, none⟩ v hs hc
  simp only [Instr.loadAt, Instr.sureAddr, Sem.run_bind, Sem.run_pure, Result.andThen_ok] at h1
  simp [results, h, hp', asAddr, h1]
theorem results_two {fn : Func} {p q : Tmp} {t u : TypeId} (h : fn.results = #[.cell p t, .cell q u]) (tmps : Array Value) (P : Program) (w : World) (g i g2 i2 : Nat) (x y : Value) (hp : tmps.getD p undef = .pointer (some ⟨g, i, none⟩)) (hq : tmps.getD q undef = .pointer (some ⟨g2, i2, none⟩)) (hs : scalarB P t = true) (hs2 : scalarB P u = true) (hc : w.cell? ⟨g, i, none⟩ = some x) (hc2 : w.cell? ⟨g2, i2, none⟩ = some y) :
    (results fn tmps).run P w = .ok (.tuple #[x, y]) w := by
  have hp' : tmps[p]?.getD undef = .pointer (some ⟨g, i, none⟩) := by simpa using hp
  have hq' : tmps[q]?.getD undef = .pointer (some ⟨g2, i2, none⟩) := by simpa using hq
  have h1 := run_load_scalar (P := P) w t ⟨g, i, none⟩ x hs hc
  have h2 := run_load_scalar (P := P) w u ⟨g2, i2, none⟩ y hs2 hc2
  simp only [Instr.loadAt, Instr.sureAddr, Sem.run_bind, Sem.run_pure, Result.andThen_ok] at h1 h2
  simp [results, h, hp', hq', asAddr, h1, h2]
end Go.Proofs.Ytgaialcbpglhaaa
namespace Go.Proofs.Ytgaialcbpglhaaa
set_option linter.unusedVariables false
open Go.RowKit
namespace Ma
set_option maxHeartbeats 4000000
set_option maxRecDepth 10000
attribute [local go_sem] Oper.semAt_some
open Bk (bet Bs osOf srt Oo Sl)
open Sw (Tk Fl mk mkP)
def MtPost (w : World) (r : Option Int) (e : Ending) (w' : World) : Prop := e = .returned (.tuple #[.int .i64 (r.getD 0), .bool r.isSome]) ∧ Below w.heap.size w w'
/-- What the loop keeps. -/
structure Mm (fs : List Fl) (nb zb : Nat) (w8 W : World) (pre : List Ord) (n : Nat) : Prop where
  eq : ∀ rest, meetsO fs (pre ++ rest) = meetsO (fs.drop n) rest
  le : n ≤ fs.length
  N : Blk W nb 3 #[.int .i64 n]
  low : Kc [nb] [] zb w8 W
/-- What a loop that stops leaves. -/
def Mq (fs : List Fl) (b6 b7 B0 : Nat) (w W : World) (pre : List Ord) (cd : Code) : Prop :=
  cd = .ret ∧ ∃ p : Int, (∀ rest, meetsO fs (pre ++ rest) = some p) ∧ Blk W b6 2 #[.int .i64 p] ∧ Blk W b7 4 #[.bool true] ∧ Below B0 w W
theorem meets_go {fs : List Fl} {pre : List Ord} {n : Nat} {o : Ord} (h : ∀ rest, meetsO fs (pre ++ rest) = meetsO (fs.drop n) rest) (hn : n < fs.length) (h1 : fs[n].id = o.id) (h2 : fs[n].qty = o.qty) : ∀ rest, meetsO fs ((pre ++ [o]) ++ rest) = meetsO (fs.drop (n + 1)) rest := fun rest => by
  rw [List.append_assoc, List.singleton_append, h, List.drop_eq_getElem_cons hn]
  simp only [meetsO]
  rw [if_pos ⟨h1, h2⟩]
theorem meets_stop {fs : List Fl} {pre : List Ord} {n : Nat} {o : Ord} (h : ∀ rest, meetsO fs (pre ++ rest) = meetsO (fs.drop n) rest) (hn : ∀ hn : n < fs.length, ¬ (fs[n].id = o.id ∧ fs[n].qty = o.qty)) : ∀ rest, meetsO fs ((pre ++ [o]) ++ rest) = some o.price := fun rest => by
  rw [List.append_assoc, List.singleton_append, h]
  by_cases hl : n < fs.length
  · rw [List.drop_eq_getElem_cons hl]
    simp only [meetsO]
    rw [if_neg (hn hl)]
  · rw [List.drop_eq_nil_of_le (by omega)]
    rfl
theorem meetsO_nil (fs : List Fl) : meetsO fs [] = none := by cases fs <;> rfl
theorem wr2_stop {W : World} {b6 b7 B0 zb : Nat} {w : World} (h6 : Blk W b6 2 #[.int .i64 0]) (h7 : Blk W b7 4 #[.bool false]) (hne : b6 ≠ b7) (hB6 : B0 ≤ b6) (hB7 : B0 ≤ b7) (hb : Below B0 w W) (p : Int) :
    KeepsFrom zb W ((W.setCell ⟨b6, 0, none⟩ (.int .i64 p)).setCell ⟨b7, 0, none⟩ (.bool true)) ∧ Blk ((W.setCell ⟨b6, 0, none⟩ (.int .i64 p)).setCell ⟨b7, 0, none⟩ (.bool true)) b6 2 #[.int .i64 p] ∧ Blk ((W.setCell ⟨b6, 0, none⟩ (.int .i64 p)).setCell ⟨b7, 0, none⟩ (.bool true)) b7 4 #[.bool true] ∧ Below B0 w ((W.setCell ⟨b6, 0, none⟩ (.int .i64 p)).setCell ⟨b7, 0, none⟩ (.bool true)) := by
  have u1 := Upd.setCell W ⟨b6, 0, none⟩ (.int .i64 p)
  have u2 := Upd.setCell (W.setCell ⟨b6, 0, none⟩ (.int .i64 p)) ⟨b7, 0, none⟩ (.bool true)
  exact ⟨((KeepsOthers.setCell _ _ _).trans (KeepsOthers.setCell _ _ _)).from _, (h6.setCell 0 _).upd hne u2, (h7.upd (Ne.symm hne) u1).setCell 0 _, below_upd (below_upd hb (show B0 ≤ b6 from hB6) u1) (show B0 ≤ b7 from hB7) u2⟩
section
variable {w : World} {c : Nat → Nat} {b N most k : Nat} {ss : List Sl}
theorem meets_any (S : Bs w c b N most k ss) (s : Int) (hs : s = 0 ∨ s = 1) {fs : List Fl} {A : Option Addr} {cap : Nat} (hrd : Rd w 4 A (fs.map Fl.cells)) (hA : ∀ a, A = some a → a.block < w.heap.size) (hfl : fs.length ≤ 500) (left stop : Int) :
    Calls Try.prog 134 #[.pointer (some ⟨b, 0, none⟩), .int .i64 s, .agg #[.slice A fs.length cap, .int .i64 left, .int .i64 stop]] w (MtPost w (meetsO fs (srt (1 - s) (osOf ss)))) := by
  obtain ⟨P, hP⟩ : ∃ P : Array Value, P = #[.slice A fs.length cap, .int .i64 left, .int .i64 stop] := ⟨_, rfl⟩
  obtain ⟨w0, hw0⟩ : ∃ w0, w0 = (((w.alloc (.cells #[.slice A fs.length cap, .int .i64 left, .int .i64 stop] 65)).alloc (.cells #[.int .i64 0] 2)).alloc (.cells #[.bool false] 4)).alloc (.cells #[.int .i64 0] 3) := ⟨_, rfl⟩
  have hP0 : Blk w0 w.heap.size 65 P := by rw [hw0, hP]; exact (((Blk.new w _ _ _ rfl).alloc _).alloc _).alloc _
  have h60 : Blk w0 (w.heap.size + 1) 2 #[.int .i64 0] := by rw [hw0]; exact ((Blk.new _ _ _ _ (by simp only [sz_alloc])).alloc _).alloc _
  have h70 : Blk w0 (w.heap.size + 2) 4 #[.bool false] := by rw [hw0]; exact (Blk.new _ _ _ _ (by simp only [sz_alloc])).alloc _
  have hN0 : Blk w0 (w.heap.size + 3) 3 #[.int .i64 0] := by rw [hw0]; exact Blk.new _ _ _ _ (by simp only [sz_alloc])
  have hb0 : Below w.heap.size w w0 := by rw [hw0]; (repeat (first | with_reducible exact Below.refl _ _ | (with_reducible assumption) | (with_reducible refine below_alloc ?_ _) | (with_reducible refine below_ext (w1 := ?_) ?_ ?_; rotate_left 2; (with_reducible assumption)) | (with_reducible refine Below.setCell ?_ ?_ _; rotate_left; ((try simp) <;> omega)) | (with_reducible refine Below.drew ?_) | (with_reducible refine below_drewN ?_ _) | fail))
  have hz0 : w0.heap.size = w.heap.size + 4 := by rw [hw0]; simp only [sz_alloc]
  have hs0 : 0 ≤ s := by omega
  have hs1 : s ≤ 1 := by omega
  have hw3 : IntKind.i64.wrap (1 - s) = 1 - s := IntWalk.i64_in _ (by omega)
  refine calls_of_wp_marks Try.func134 rfl ?_
  simp only [Try.ntmps134, List.size_toArray, List.length_cons, List.length_nil, Nat.reduceAdd, Nat.reduceSub, Array.replicate_succ, Array.replicate_zero, List.push_toArray, List.append_toArray, List.nil_append, List.cons_append]
  have HW0 := Lib.hid hw0
  have HZ0 := Lib.hid hz0
  have HS := Lib.hid hs
  have HR := Lib.hid hrd
  have HA := Lib.hid hA
  have HP := Lib.hid hP
  clear hw0 hz0 hs hrd hA hP
  go_wp2_with fail
  rw [← HW0.out]
  refine (Bk.each_any (some ⟨b, 0, none⟩) (1 - s) _).mono ?_
  rintro e w8 ⟨rfl, hQ8, hI8, hb8⟩
  go_wp2_with fail
  have hzw := HZ0.out
  have hP8 := hP0.ext hb8
  have h68 := h60.ext hb8
  have h78 := h70.ext hb8
  have hN8 := hN0.ext hb8
  have hB8 := below_ext hb0 hb8
  have hz8 := hb8.size
  have S8 := S.ext hB8
  have h9 : ∀ r, w.heap.size ≤ r → c r = 9 := by
    obtain ⟨d, B, I⟩ := S
    exact fun r hr => B.out _ hr
  obtain ⟨nb, hnb⟩ : ∃ n, n = w.heap.size + 3 := ⟨_, rfl⟩
  obtain ⟨b6, hb6⟩ : ∃ n, n = w.heap.size + 1 := ⟨_, rfl⟩
  obtain ⟨b7, hb7⟩ : ∃ n, n = w.heap.size + 2 := ⟨_, rfl⟩
  have h9n : c nb = 9 := h9 _ (by omega)
  have hw1 : w.heap.size + 1 = b6 := hb6.symm
  have hw2 : w.heap.size + 2 = b7 := hb7.symm
  have hw4 : w.heap.size + 3 = nb := hnb.symm
  rw [hw1] at h68
  rw [hw2] at h78
  rw [hw4] at hN8
  have hq1 : w.heap.size + 1 + 1 = b7 := hw2
  have hq2 : w.heap.size + 1 + 1 + 1 = nb := hw4
  rw [hq2, hq1, hw1]
  have hfar : w.heap.size < b6 ∧ b6 < b7 ∧ b7 < nb ∧ nb < w8.heap.size := by omega
  have hseq := Lib.hid (Bk.beach_all S8 (1 - s) _ _ hQ8 hI8 [nb] [] (fun t h => by cases h) (fun q hq => by rw [List.mem_singleton.1 hq]; exact ⟨h9n, by omega⟩))
  have HRW := Lib.hid (HR.out.below hB8)
  clear hQ8 hI8 hb8 hzw hz8 S8 HZ0 HW0 S hP0 h60 h70 hN0 hb0 hnb hb6 hb7 hw1 hw2 hw4 hq1 hq2 h9 h9n HR hw3
  refine' wp_rangeFuncOF [nb] [] (gf := 114) (by rfl) (enters_of Try.func114 (by kernel_rfl) rfl) hseq.out (fun _ => rfl)
    (fun pre W => ∃ n, Mm fs nb w8.heap.size w8 W (pre.map (·.1)) n)
    (fun cd pre W => Mq fs b6 b7 w.heap.size w W (pre.map (·.1)) cd)
    ?I ?Ix ?h0 _ (fun x bx W => w8.heap.size ≤ bx ∧ Blk W bx 43 x.1.arr) ?hBx ?assign ?body ?done ?stop
  case I =>
    rintro pre W W' row ⟨n, h⟩ hg hr
    exact ⟨n, h.eq, h.le, h.N.own hg hr, Bk.kc_own w8 (Nat.le_refl _) (Nat.le_refl _) () W W' row h.low hg hr⟩
  case Ix =>
    rintro cd pre W W' row ⟨h1, p, h2, h3, h4, h5⟩ hg hr
    exact ⟨h1, p, h2, h3.own hg hr, h4.own hg hr, h5.trans (grown_below hg (by have := h5.size; omega) (fun q e => by have := (hr q e).1; have := hB8.size; omega))⟩
  case h0 => exact ⟨0, fun rest => rfl, Nat.zero_le _, hN8, Kc.refl _ _ _ _⟩
  case hBx =>
    rintro x bx _ W W' row ⟨h2, h3⟩ hg hr
    exact ⟨h2, h3.own hg hr⟩
  case assign =>
    intro l pre x W K hI hK
    obtain ⟨n, h⟩ := hI
    have hsz := h.low.low.size
    have hX0 : Blk (W.alloc (.cells Are.ord0.arr 43)) W.heap.size 43 Are.ord0.arr := Blk.new _ _ _ _ rfl
    unfold Bk.encO
    refine round_region_lit (by kernel_rfl) (fun ⟨_, _, h⟩ => h) ?_
    go_wp2_with (first | ((with_reducible show wpList _ _ _ (⟨_, .store 43 _ _, _, _, _, _⟩ :: _) _ _); refine wpList_store_blk (by rfl) 43 _ _ (by rfl) _ _ (by rfl) (by rfl) _ _ hX0 (by kernel_rfl) (by rfl) ?_ ?_; (next => first | (simp [Value.oneCell']; done) | (simp [Value.oneCell']; done) | exact Are.ordArr_one _); intro W5 hX5 hU5) | fail)
    have hW5 : Below W.heap.size W W5 := below_upd (by (repeat (first | with_reducible exact Below.refl _ _ | (with_reducible assumption) | (with_reducible refine below_alloc ?_ _) | (with_reducible refine below_ext (w1 := ?_) ?_ ?_; rotate_left 2; (with_reducible assumption)) | (with_reducible refine Below.setCell ?_ ?_ _; rotate_left; ((try simp) <;> omega)) | (with_reducible refine Below.drew ?_) | (with_reducible refine below_drewN ?_ _) | fail))) (Nat.le_refl _) hU5
    try simp only [Act.put]
    obtain ⟨bx, hbe⟩ : ∃ b, b = W.heap.size := ⟨_, rfl⟩
    rw [← hbe] at hX5 ⊢
    have hk5 : Kc [nb] [] w8.heap.size W W5 := Kc.of_below hW5 hsz
    exact hK bx W5 (keepsFrom_below hW5) hk5 ⟨n, h.eq, h.le, h.N.ext hW5, h.low.trans hk5⟩ ⟨by omega, hX5⟩
  case body =>
    rintro l pre ⟨o, ho⟩ bx W ⟨n, M⟩ ⟨hbx, hX⟩ hlt2
    have hlow := M.low
    have hlw := hlow.low.size
    have hPW : Blk W w.heap.size 65 P := hlow.low_blk hP8 (by simp; omega) (by omega)
    have h6W : Blk W b6 2 #[.int .i64 0] := hlow.low_blk h68 (by simp; omega) (by omega)
    have h7W : Blk W b7 4 #[.bool false] := hlow.low_blk h78 (by simp; omega) (by omega)
    have hrW : Rd W 4 A (fs.map Fl.cells) := HRW.out.keep (fun a e => hlow.low.block _ (by have := HA.out a e; omega) (by simp; have := HA.out a e; omega))
    have hBW : Below w.heap.size w W := hB8.trans ⟨hlow.low.os, hlow.low.tape, hlow.low.output, hlow.low.size, fun q hq => hlow.low.block q (by omega) (by simp; omega)⟩
    have hN := M.N
    have hnl := M.le
    have lX := hX.lt
    have lN := hN.lt
    have lP := hPW.lt
    have l6 := h6W.lt
    have l7 := h7W.lt
    have n0 : W.cell? ⟨nb, 0, none⟩ = some (.int .i64 n) := hN.cell 0
    have p0 : W.cell? ⟨w.heap.size, 0, none⟩ = some (.slice A fs.length cap) := by have h := hPW.cell 0; rw [HP.out] at h; exact h
    have o0 : W.cell? ⟨bx, 0, none⟩ = some (.int .i64 o.id) := hX.cell 0
    have o3 : W.cell? ⟨bx, 3, none⟩ = some (.int .i64 o.price) := hX.cell 3
    have o4 : W.cell? ⟨bx, 4, none⟩ = some (.int .i64 o.qty) := hX.cell 4
    have hmap : (pre ++ [(⟨o, ho⟩ : Oo (1 - s) (osOf ss))]).map (·.1) = pre.map (·.1) ++ [o] := by simp
    have HM := Lib.hid M
    have HMP := Lib.hid hmap
    clear hmap hseq hP8 h68 h78 hN8 hlow M HRW HS
    have hno : (∀ hn : n < fs.length, ¬ (fs[n].id = o.id ∧ fs[n].qty = o.qty)) → ∀ rest, meetsO fs ((pre ++ [(⟨o, ho⟩ : Oo (1 - s) (osOf ss))]).map (·.1) ++ rest) = some o.price := fun h => by
      rw [HMP.out]
      exact meets_stop HM.out.eq h
    have HNO := Lib.hid hno
    clear hno
    by_cases hlt : n < fs.length
    · have e1 : (n : Int) < (fs.length : Int) := by omega
      have e2 : (0 : Int) ≤ (n : Int) := by omega
      have e3 : decide ((n : Int) < (fs.length : Int)) = true := decide_eq_true e1
      obtain ⟨ab, ao, rfl, hmid⟩ := Bk.rd_rngB hrW hlt
      have q0 : W.cell? ⟨ab, ao + n * 4, none⟩ = some (.int .i64 fs[n].id) := hmid 0 _ rfl
      have q2 : W.cell? ⟨ab, ao + n * 4 + 2, none⟩ = some (.int .i64 fs[n].qty) := hmid 2 _ rfl
      have lA : ab < W.heap.size := by have := HA.out _ rfl; simp at this; omega
      by_cases hid : fs[n].id = o.id
      · have k1 : (fs[n].id == o.id) = true := by simp [hid]
        by_cases hqt : fs[n].qty = o.qty
        · have k2 : (fs[n].qty == o.qty) = true := by simp [hqt]
          have HGO : Hid (∀ rest, meetsO fs ((pre ++ [(⟨o, ho⟩ : Oo (1 - s) (osOf ss))]).map (·.1) ++ rest) = meetsO (fs.drop (n + 1)) rest) := Lib.hid (by
            rw [HMP.out]
            exact meets_go HM.out.eq hlt hid hqt)
          have HLT := Lib.hid hlt
          clear hid hqt hmid hrW
          generalize fs[n].id = fid at *
          generalize fs[n].qty = fq at *
          refine wpIn_block ?_
          refine wpIn_seq ?_
          refine wpIn_seq ?_
          refine round_region_below_lit (by kernel_rfl) (by kernel_rfl) (fun ⟨_, _, h⟩ => h) (by kernel_rfl) ?_
          repeat (first | go_big_quiet_skip | (go_big_quiet_want; go_big_quiet_op; go_big_quiet_on) | (refine q_load_fld (by rfl) _ _ (by rfl) (fun _ h => h) _ _ (by rfl) ?_ ?_ ?_ ?_ ?_ ?_; rotate_left; (next => (repeat (first | (with_reducible refine BlkAt.new _ _ _ _ ?_; ((try simp) <;> omega)) | (with_reducible assumption) | (with_reducible refine Blk.at (t := ?_) ?_; rotate_left; with_reducible assumption) | with_reducible refine BlkAt.alloc ?_ _ | with_reducible refine BlkAt.drew ?_ | (with_reducible refine BlkAt.setSame ?_ _ _) | (with_reducible refine BlkAt.setCell ?_ ?_ _; rotate_left; ((try simp) <;> omega)) | (with_reducible refine BlkAt.ext (w := ?_) ?_ ?_; rotate_left 2; (with_reducible assumption)) | fail))); rotate_left; (next => first | (simp only [go_sem]; rfl) | rfl); (next => kernel_rfl); (try simp only [Act.put, List.setIfInBounds_toArray, List.set_cons_zero, List.set_cons_succ])) | (refine q_rem (by rfl) _ _ _ _ (by rfl) _ _ (by rfl) (by rfl) (by kernel_rfl) (by kernel_rfl) ?_ ?_; (next => omega); (try simp only [Act.put, List.setIfInBounds_toArray, List.set_cons_zero, List.set_cons_succ])) | (refine q_step_ex (by rfl) ?_; apply Exists.intro; refine ⟨fun W hW => ?_, ?_⟩; (next => (have hWc := fun (b o : Nat) (h : b < _) => (Ext.out hW).cell (p := ⟨b, o, none⟩) h); (try have hLK := HLK.out W (Ext.out hW)); go_simp; first | rfl | fail | fail); (try simp only [Act.put, List.setIfInBounds_toArray, List.set_cons_zero, List.set_cons_succ])) | fail)
          refine wpQuiet_nil ?_
          intro w9 hb9
          have n9 : w9.cell? ⟨nb, 0, none⟩ = some (.int .i64 n) := (hN.ext hb9).cell 0
          have f9 : w9.frozen? ⟨nb, 0, none⟩ = false := (hN.ext hb9).frozen 0
          gi_wp2_with fail
          have hkc : Kc [nb] [] w8.heap.size W (w9.setCell ⟨nb, 0, none⟩ (.int .i64 ((n : Int) + 1))) := (Kc.of_below hb9 hlw).trans (Sw.kc_updS (by simp) (Upd.setCell w9 ⟨nb, 0, none⟩ _))
          exact ⟨(keepsFrom_below hb9).trans ((KeepsOthers.setCell _ _ _).from _), hkc, n + 1, HGO.out, HLT.out, by push_cast; exact (hN.ext hb9).setCell 0 _, HM.out.low.trans hkc⟩
        · have k2 : (fs[n].qty == o.qty) = false := by simp [hqt]
          have HNO2 := Lib.hid (HNO.out (fun _ h => hqt h.2))
          clear hid hqt hmid hrW HNO
          generalize fs[n].id = fid at *
          generalize fs[n].qty = fq at *
          refine wpIn_block ?_
          refine wpIn_seq ?_
          refine wpIn_seq ?_
          refine round_region_below_lit (by kernel_rfl) (by kernel_rfl) (fun ⟨_, _, h⟩ => h) (by kernel_rfl) ?_
          repeat (first | go_big_quiet_skip | (go_big_quiet_want; go_big_quiet_op; go_big_quiet_on) | (refine q_load_fld (by rfl) _ _ (by rfl) (fun _ h => h) _ _ (by rfl) ?_ ?_ ?_ ?_ ?_ ?_; rotate_left; (next => (repeat (first | (with_reducible refine BlkAt.new _ _ _ _ ?_; ((try simp) <;> omega)) | (with_reducible assumption) | (with_reducible refine Blk.at (t := ?_) ?_; rotate_left; with_reducible assumption) | with_reducible refine BlkAt.alloc ?_ _ | with_reducible refine BlkAt.drew ?_ | (with_reducible refine BlkAt.setSame ?_ _ _) | (with_reducible refine BlkAt.setCell ?_ ?_ _; rotate_left; ((try simp) <;> omega)) | (with_reducible refine BlkAt.ext (w := ?_) ?_ ?_; rotate_left 2; (with_reducible assumption)) | fail))); rotate_left; (next => first | (simp only [go_sem]; rfl) | rfl); (next => kernel_rfl); (try simp only [Act.put, List.setIfInBounds_toArray, List.set_cons_zero, List.set_cons_succ])) | (refine q_rem (by rfl) _ _ _ _ (by rfl) _ _ (by rfl) (by rfl) (by kernel_rfl) (by kernel_rfl) ?_ ?_; (next => omega); (try simp only [Act.put, List.setIfInBounds_toArray, List.set_cons_zero, List.set_cons_succ])) | (refine q_step_ex (by rfl) ?_; apply Exists.intro; refine ⟨fun W hW => ?_, ?_⟩; (next => (have hWc := fun (b o : Nat) (h : b < _) => (Ext.out hW).cell (p := ⟨b, o, none⟩) h); (try have hLK := HLK.out W (Ext.out hW)); go_simp; first | rfl | fail | fail); (try simp only [Act.put, List.setIfInBounds_toArray, List.set_cons_zero, List.set_cons_succ])) | fail)
          refine wpQuiet_nil ?_
          intro w9 hb9
          have h69 := h6W.ext hb9
          have h79 := h7W.ext hb9
          have a6 : w9.cell? ⟨b6, 0, none⟩ = some (.int .i64 0) := h69.cell 0
          have g6 : w9.frozen? ⟨b6, 0, none⟩ = false := h69.frozen 0
          have a7 : w9.cell? ⟨b7, 0, none⟩ = some (.bool false) := h79.cell 0
          have g7 : w9.frozen? ⟨b7, 0, none⟩ = false := h79.frozen 0
          have o39 : w9.cell? ⟨bx, 3, none⟩ = some (.int .i64 o.price) := (Blk.ext hX hb9).cell 3
          have ne67 : b6 ≠ b7 := by omega
          gi_wp2_with fail
          have T := wr2_stop (zb := w8.heap.size) h69 h79 ne67 (by omega : w.heap.size ≤ b6) (by omega : w.heap.size ≤ b7) (below_ext hBW hb9) o.price
          exact ⟨(keepsFrom_below hb9).trans T.1, rfl, o.price, HNO2.out, T.2.1, T.2.2.1, T.2.2.2⟩
      · have k1 : (fs[n].id == o.id) = false := by simp [hid]
        have HNO2 := Lib.hid (HNO.out (fun _ h => hid h.1))
        clear hid hmid hrW HNO
        generalize fs[n].id = fid at *
        generalize fs[n].qty = fq at *
        refine wpIn_block ?_
        refine wpIn_seq ?_
        refine wpIn_seq ?_
        refine round_region_below_lit (by kernel_rfl) (by kernel_rfl) (fun ⟨_, _, h⟩ => h) (by kernel_rfl) ?_
        repeat (first | go_big_quiet_skip | (go_big_quiet_want; go_big_quiet_op; go_big_quiet_on) | (refine q_load_fld (by rfl) _ _ (by rfl) (fun _ h => h) _ _ (by rfl) ?_ ?_ ?_ ?_ ?_ ?_; rotate_left; (next => (repeat (first | (with_reducible refine BlkAt.new _ _ _ _ ?_; ((try simp) <;> omega)) | (with_reducible assumption) | (with_reducible refine Blk.at (t := ?_) ?_; rotate_left; with_reducible assumption) | with_reducible refine BlkAt.alloc ?_ _ | with_reducible refine BlkAt.drew ?_ | (with_reducible refine BlkAt.setSame ?_ _ _) | (with_reducible refine BlkAt.setCell ?_ ?_ _; rotate_left; ((try simp) <;> omega)) | (with_reducible refine BlkAt.ext (w := ?_) ?_ ?_; rotate_left 2; (with_reducible assumption)) | fail))); rotate_left; (next => first | (simp only [go_sem]; rfl) | rfl); (next => kernel_rfl); (try simp only [Act.put, List.setIfInBounds_toArray, List.set_cons_zero, List.set_cons_succ])) | (refine q_rem (by rfl) _ _ _ _ (by rfl) _ _ (by rfl) (by rfl) (by kernel_rfl) (by kernel_rfl) ?_ ?_; (next => omega); (try simp only [Act.put, List.setIfInBounds_toArray, List.set_cons_zero, List.set_cons_succ])) | (refine q_step_ex (by rfl) ?_; apply Exists.intro; refine ⟨fun W hW => ?_, ?_⟩; (next => (have hWc := fun (b o : Nat) (h : b < _) => (Ext.out hW).cell (p := ⟨b, o, none⟩) h); (try have hLK := HLK.out W (Ext.out hW)); go_simp; first | rfl | fail | fail); (try simp only [Act.put, List.setIfInBounds_toArray, List.set_cons_zero, List.set_cons_succ])) | fail)
        refine wpQuiet_nil ?_
        intro w9 hb9
        have h69 := h6W.ext hb9
        have h79 := h7W.ext hb9
        have a6 : w9.cell? ⟨b6, 0, none⟩ = some (.int .i64 0) := h69.cell 0
        have g6 : w9.frozen? ⟨b6, 0, none⟩ = false := h69.frozen 0
        have a7 : w9.cell? ⟨b7, 0, none⟩ = some (.bool false) := h79.cell 0
        have g7 : w9.frozen? ⟨b7, 0, none⟩ = false := h79.frozen 0
        have o39 : w9.cell? ⟨bx, 3, none⟩ = some (.int .i64 o.price) := (Blk.ext hX hb9).cell 3
        have ne67 : b6 ≠ b7 := by omega
        gi_wp2_with fail
        have T := wr2_stop (zb := w8.heap.size) h69 h79 ne67 (by omega : w.heap.size ≤ b6) (by omega : w.heap.size ≤ b7) (below_ext hBW hb9) o.price
        exact ⟨(keepsFrom_below hb9).trans T.1, rfl, o.price, HNO2.out, T.2.1, T.2.2.1, T.2.2.2⟩
    · have e1 : ¬ (n : Int) < (fs.length : Int) := by omega
      have e3 : decide ((n : Int) < (fs.length : Int)) = false := decide_eq_false e1
      have e4 : decide (n < fs.length) = false := decide_eq_false hlt
      have HNO2 := Lib.hid (HNO.out (fun h => absurd h hlt))
      clear hrW HNO
      refine wpIn_block ?_
      refine wpIn_seq ?_
      refine wpIn_seq ?_
      refine round_region_below_lit (by kernel_rfl) (by kernel_rfl) (fun ⟨_, _, h⟩ => h) (by kernel_rfl) ?_
      repeat (first | go_big_quiet_skip | (go_big_quiet_want; go_big_quiet_op; go_big_quiet_on) | (refine q_load_fld (by rfl) _ _ (by rfl) (fun _ h => h) _ _ (by rfl) ?_ ?_ ?_ ?_ ?_ ?_; rotate_left; (next => (repeat (first | (with_reducible refine BlkAt.new _ _ _ _ ?_; ((try simp) <;> omega)) | (with_reducible assumption) | (with_reducible refine Blk.at (t := ?_) ?_; rotate_left; with_reducible assumption) | with_reducible refine BlkAt.alloc ?_ _ | with_reducible refine BlkAt.drew ?_ | (with_reducible refine BlkAt.setSame ?_ _ _) | (with_reducible refine BlkAt.setCell ?_ ?_ _; rotate_left; ((try simp) <;> omega)) | (with_reducible refine BlkAt.ext (w := ?_) ?_ ?_; rotate_left 2; (with_reducible assumption)) | fail))); rotate_left; (next => first | (simp only [go_sem]; rfl) | rfl); (next => kernel_rfl); (try simp only [Act.put, List.setIfInBounds_toArray, List.set_cons_zero, List.set_cons_succ])) | (refine q_rem (by rfl) _ _ _ _ (by rfl) _ _ (by rfl) (by rfl) (by kernel_rfl) (by kernel_rfl) ?_ ?_; (next => omega); (try simp only [Act.put, List.setIfInBounds_toArray, List.set_cons_zero, List.set_cons_succ])) | (refine q_step_ex (by rfl) ?_; apply Exists.intro; refine ⟨fun W hW => ?_, ?_⟩; (next => (have hWc := fun (b o : Nat) (h : b < _) => (Ext.out hW).cell (p := ⟨b, o, none⟩) h); (try have hLK := HLK.out W (Ext.out hW)); go_simp; first | rfl | fail | fail); (try simp only [Act.put, List.setIfInBounds_toArray, List.set_cons_zero, List.set_cons_succ])) | fail)
      refine wpQuiet_nil ?_
      intro w9 hb9
      have h69 := h6W.ext hb9
      have h79 := h7W.ext hb9
      have a6 : w9.cell? ⟨b6, 0, none⟩ = some (.int .i64 0) := h69.cell 0
      have g6 : w9.frozen? ⟨b6, 0, none⟩ = false := h69.frozen 0
      have a7 : w9.cell? ⟨b7, 0, none⟩ = some (.bool false) := h79.cell 0
      have g7 : w9.frozen? ⟨b7, 0, none⟩ = false := h79.frozen 0
      have o39 : w9.cell? ⟨bx, 3, none⟩ = some (.int .i64 o.price) := (Blk.ext hX hb9).cell 3
      have ne67 : b6 ≠ b7 := by omega
      gi_wp2_with fail
      have T := wr2_stop (zb := w8.heap.size) h69 h79 ne67 (by omega : w.heap.size ≤ b6) (by omega : w.heap.size ≤ b7) (below_ext hBW hb9) o.price
      exact ⟨(keepsFrom_below hb9).trans T.1, rfl, o.price, HNO2.out, T.2.1, T.2.2.1, T.2.2.2⟩
  case done =>
    rintro D ys W hD hys ⟨n, M⟩ hK
    have hlow := M.low
    have hlw := hlow.low.size
    have h6W : Blk W b6 2 #[.int .i64 0] := hlow.low_blk h68 (by simp; omega) (by omega)
    have h7W : Blk W b7 4 #[.bool false] := hlow.low_blk h78 (by simp; omega) (by omega)
    have hBW : Below w.heap.size w W := hB8.trans ⟨hlow.low.os, hlow.low.tape, hlow.low.output, hlow.low.size, fun q hq => hlow.low.block q (by omega) (by simp; omega)⟩
    have hres : meetsO fs (srt (1 - s) (osOf ss)) = none := by
      have h := M.eq []
      rw [List.append_nil, hys, meetsO_nil] at h
      exact h
    have HRS := Lib.hid hres
    have a6 : W.cell? ⟨b6, 0, none⟩ = some (.int .i64 0) := h6W.cell 0
    have g6 : W.frozen? ⟨b6, 0, none⟩ = false := h6W.frozen 0
    have a7 : W.cell? ⟨b7, 0, none⟩ = some (.bool false) := h7W.cell 0
    have g7 : W.frozen? ⟨b7, 0, none⟩ = false := h7W.frozen 0
    have ne67 : b6 ≠ b7 := by omega
    have hKl : D < W.heap.size := (Array.getElem?_eq_some_iff.1 hK).1
    clear hseq hlow M hres
    go_wp2_with fail
    rw [HRS.out]
    have u1 := Upd.setCell W ⟨b6, 0, none⟩ (.int .i64 0)
    have u2 := Upd.setCell (W.setCell ⟨b6, 0, none⟩ (.int .i64 0)) ⟨b7, 0, none⟩ (.bool false)
    have k6 := (h6W.setCell 0 (.int .i64 0)).upd ne67 u2
    have k7 := (h7W.upd (Ne.symm ne67) u1).setCell 0 (.bool false)
    have hK2 := (u2.block D (by show D ≠ b7; omega)).trans ((u1.block D (by show D ≠ b6; omega)).trans hK)
    exact bodyPostM_ret rfl hK2 (results_two rfl _ _ _ b6 0 b7 0 _ _ (by rfl) (by rfl) (by kernel_rfl) (by kernel_rfl) ((cell_mark (by omega)).trans (k6.cell 0)) ((cell_mark (by omega)).trans (k7.cell 0))) ⟨rfl, below_mark (below_upd (below_upd hBW (show w.heap.size ≤ b6 by omega) u1) (show w.heap.size ≤ b7 by omega) u2) (by omega) hK2⟩
  case stop =>
    rintro D cd pre W hD hp ⟨rfl, p, h2, h3, h4, h5⟩ hK
    have hres : meetsO fs (srt (1 - s) (osOf ss)) = some p := by
      obtain ⟨rest, h⟩ := hp
      rw [← h]
      exact h2 rest
    have HRS := Lib.hid hres
    clear hseq hres h2
    go_wp2_with fail
    rw [HRS.out]
    exact bodyPostM_ret rfl hK (results_two rfl _ _ _ b6 0 b7 0 _ _ (by rfl) (by rfl) (by kernel_rfl) (by kernel_rfl) ((cell_mark (by omega)).trans (h3.cell 0)) ((cell_mark (by omega)).trans (h4.cell 0))) ⟨rfl, below_mark h5 (by omega) hK⟩
end
end Ma
end Go.Proofs.Ytgaialcbpglhaaa
namespace Go.Proofs.Ytgaialcbpglhaaa
set_option linter.unusedVariables false
open Go.RowKit
namespace Ma
set_option maxHeartbeats 4000000
set_option maxRecDepth 10000
open Bk (bet Bs osOf srt Sl)
open Sw (Tk Fl mk mkP MkPost)
theorem mk_len (t : Tk) : ∀ (l : List Ord) (q : Int), (mk t l q).1.length ≤ l.length
  | [], q => by simp [mk]
  | o :: l, q => by
    unfold mk
    split
    · simp
    · split
      · simp
      · split
        · simp
        · split
          · have := mk_len t l (q - min q o.qty)
            simpa using this
          · split
            · simp
            · split
              · simp
              · have := mk_len t l q
                simpa using this
theorem mkP_len (t : Tk) (os : List Ord) : (mkP t os).1.length ≤ os.length := by
  unfold mkP
  split
  · exact Nat.le_trans (mk_len _ _ _) (Sw.srt_le _ _)
  · exact Nat.zero_le _
theorem built_tk (s o l q lo hi f : Int) : Try.prog.built 67 [(0, .int .i64 s), (1, .int .i64 o), (2, .int .i64 l), (3, .int .i64 q), (4, .agg #[.int .i64 lo, .int .i64 hi]), (5, .int .i64 f)] = some (Tk.mk s o l q lo hi f).arr := by kernel_rfl
section
variable {w : World} {c : Nat → Nat} {b N most k : Nat} {ss : List Sl}
theorem plan_any (S : Bs w c b N most k ss) (e : En) (hq : e.o.qty ≤ 9223372036854775807) : Calls Try.prog 83 #[.agg e.arr, .pointer (some ⟨b, 0, none⟩)] w (MkPost w (mkP (tkE e) (osOf ss))) := by
  have hE0 : Blk ((w.alloc (.cells e.arr 80)).alloc (.cells #[.slice none 0 0, .int .i64 0, .int .i64 0] 65)) w.heap.size 80 e.arr := (Blk.new w _ _ _ rfl).alloc _
  have hP0 : Blk ((w.alloc (.cells e.arr 80)).alloc (.cells #[.slice none 0 0, .int .i64 0, .int .i64 0] 65)) (w.heap.size + 1) 65 #[.slice none 0 0, .int .i64 0, .int .i64 0] := Blk.new _ _ _ _ (sz_alloc _ _)
  have hb0 : Below w.heap.size w ((w.alloc (.cells e.arr 80)).alloc (.cells #[.slice none 0 0, .int .i64 0, .int .i64 0] 65)) := by (repeat (first | with_reducible exact Below.refl _ _ | (with_reducible assumption) | (with_reducible refine below_alloc ?_ _) | (with_reducible refine below_ext (w1 := ?_) ?_ ?_; rotate_left 2; (with_reducible assumption)) | (with_reducible refine Below.setCell ?_ ?_ _; rotate_left; ((try simp) <;> omega)) | (with_reducible refine Below.drew ?_) | (with_reducible refine below_drewN ?_ _) | fail))
  have HL := Lib.hid (fun W => limit_any e W)
  have HMK := Lib.hid (fun W (hW : Below w.heap.size w W) => Sw.make_any (S.ext hW) (tkE e) hq)
  have hband : ((w.alloc (.cells e.arr 80)).alloc (.cells #[.slice none 0 0, .int .i64 0, .int .i64 0] 65)).rangeAt w.heap.size 8 [.int .i64 e.lo, .int .i64 e.hi] := fun j v hv => by
    rw [hE0.cell]
    match j, hv with
    | 0, hv => exact hv
    | 1, hv => exact hv
    | n + 2, hv => simp at hv
  have HT := Lib.hid (show tkE e = ⟨e.o.side, e.o.owner, limF e, e.o.qty, e.lo, e.hi, e.self⟩ from rfl)
  go_enter Try.func83, Try.ntmps83
  go_wp2_with fail
  refine wp_region_below_tail 17 (by kernel_rfl) (by kernel_rfl) ?_
  simp only [List.take_succ_cons, List.take_zero, List.drop_succ_cons, List.drop_zero]
  repeat (first | (refine q_build (by rfl) _ _ (by rfl) ?_ ?_ ?_; rotate_left; (next => simp only [List.map_toArray, List.map_cons, List.map_nil, go_sem]; exact built_tk); (try simp only [Act.put, List.setIfInBounds_toArray, List.set_cons_zero, List.set_cons_succ])) | go_big_quiet_skip | (go_big_quiet_want; go_big_quiet_op; go_big_quiet_on) | (refine q_load_mid (by rfl) _ _ (by rfl) (fun _ h => h) _ _ (by rfl) _ _ hband Try.underlying60 rfl (by kernel_rfl) ?_; (try simp only [Act.put, List.setIfInBounds_toArray, List.set_cons_zero, List.set_cons_succ])) | (refine q_load_blk (by rfl) 80 _ (by rfl) ?_ (.pointer (some ⟨_, 0, none⟩)) (by rfl) ?_ _ (fun _ h => h) Try.underlying80 rfl ?_ ?_; rotate_left; (next => (repeat (first | (with_reducible refine BlkAt.new _ _ _ _ ?_; ((try simp) <;> omega)) | (with_reducible assumption) | (with_reducible refine Blk.at (t := ?_) ?_; rotate_left; with_reducible assumption) | with_reducible refine BlkAt.alloc ?_ _ | with_reducible refine BlkAt.drew ?_ | (with_reducible refine BlkAt.setSame ?_ _ _) | (with_reducible refine BlkAt.setCell ?_ ?_ _; rotate_left; ((try simp) <;> omega)) | (with_reducible refine BlkAt.ext (w := ?_) ?_ ?_; rotate_left 2; (with_reducible assumption)) | fail))); (next => kernel_rfl); (try simp only [Act.put, List.setIfInBounds_toArray, List.set_cons_zero, List.set_cons_succ])) | (refine q_load_fld (by rfl) _ _ (by rfl) (fun _ h => h) _ _ (by rfl) ?_ ?_ ?_ ?_ ?_ ?_; rotate_left; (next => (repeat (first | (with_reducible refine BlkAt.new _ _ _ _ ?_; ((try simp) <;> omega)) | (with_reducible assumption) | (with_reducible refine Blk.at (t := ?_) ?_; rotate_left; with_reducible assumption) | with_reducible refine BlkAt.alloc ?_ _ | with_reducible refine BlkAt.drew ?_ | (with_reducible refine BlkAt.setSame ?_ _ _) | (with_reducible refine BlkAt.setCell ?_ ?_ _; rotate_left; ((try simp) <;> omega)) | (with_reducible refine BlkAt.ext (w := ?_) ?_ ?_; rotate_left 2; (with_reducible assumption)) | fail))); rotate_left; (next => first | (simp only [go_sem]; rfl) | rfl); (next => kernel_rfl); (try simp only [Act.put, List.setIfInBounds_toArray, List.set_cons_zero, List.set_cons_succ])) | (refine q_rem (by rfl) _ _ _ _ (by rfl) _ _ (by rfl) (by rfl) (by kernel_rfl) (by kernel_rfl) ?_ ?_; (next => omega); (try simp only [Act.put, List.setIfInBounds_toArray, List.set_cons_zero, List.set_cons_succ])) | (refine q_step_ex (by rfl) ?_; apply Exists.intro; refine ⟨fun W hW => ?_, ?_⟩; (next => (have hWc := fun (b o : Nat) (h : b < _) => (Ext.out hW).cell (p := ⟨b, o, none⟩) h); (try have hLK := HLK.out W (Ext.out hW)); go_simp; first | rfl | (go_at_call 131; refine (HL.out _).mono ?_; rintro x w'' ⟨rfl, hb2⟩; exact ⟨rfl, below_ext hW hb2⟩) | fail); (try simp only [Act.put, List.setIfInBounds_toArray, List.set_cons_zero, List.set_cons_succ])) | fail)
  refine wpQuiet_nil ?_
  intro w1 hb1
  have hb01 := below_ext hb0 hb1
  have hP1 := hP0.ext hb1
  clear hE0 hP0 hb0 hband hb1
  go_wp2_with (first | (go_at_call 25; refine (HMK.out _ hb01).mono ?_; rintro x w2 ⟨⟨v, rfl, hown2⟩, hb2⟩; have hP2 := hP1.ext hb2; obtain ⟨A2, cp2, rfl⟩ := Sw.owns_slice hown2) | ((with_reducible show wpList _ _ _ (⟨_, .store 65 _ _, _, _, _, _⟩ :: _) _ _); refine wpList_store_blk (by rfl) 65 _ _ (by rfl) _ _ (by rfl) (by rfl) _ _ hP2 (by kernel_rfl) (by rfl) ?_ ?_; (next => first | (simp [Value.oneCell']; done) | (simp [Value.oneCell', Edt.cells]; done) | exact Are.ordArr_one _); intro w3 hP3 hU3) | fail)
  refine bodyPost_ret (Sw.results_plan rfl _ _ (w.heap.size + 1) _ (by rfl) hP3 rfl) rfl ⟨⟨_, rfl, Sw.owns_upd (Sw.owns_mono hown2 hb01.size) hP2 (by decide) hU3⟩, below_upd (below_ext hb01 hb2) (by omega) hU3⟩
/-- Whether what a plan leaves rests. -/
theorem rests_any (S : Bs w c b N most k ss) (e : En) (hs : e.o.side = 0 ∨ e.o.side = 1) {fs : List Fl} {A : Option Addr} {cap : Nat} (hrd : Rd w 4 A (fs.map Fl.cells)) (hA : ∀ a, A = some a → a.block < w.heap.size) (hfl : fs.length ≤ 500) (left stop : Int) :
    Calls Try.prog 84 #[.agg e.arr, .pointer (some ⟨b, 0, none⟩), .agg #[.slice A fs.length cap, .int .i64 left, .int .i64 stop]] w fun x w' => x = .returned (.bool (restsF (osOf ss) e (fs, left, stop))) ∧ Below w.heap.size w w' := by
  have HS := Lib.hid (fun W => stays_any e W)
  have HB := Lib.hid (fun W => beyond_any e (edgeF e) W)
  have HE := Lib.hid (fun W => edge_any e W)
  have HM := Lib.hid (fun W (hW : Below w.heap.size w W) => meets_any (S.ext hW) e.o.side hs (hrd.below hW) (fun a h => Nat.lt_of_lt_of_le (hA a h) hW.size) (cap := cap) hfl left stop)
  have HBT := Lib.hid (fun q W => Bk.better_any e.o.side q (edgeF e) W)
  have hR : restsF (osOf ss) e (fs, left, stop) = (!(left == 0 || stop == 3 || !staysF e || decide (edgeF e < 1) || decide (1099511627776 < edgeF e) || beyF e.o.side e.lo e.hi (edgeF e)) && openF e.o.side (edgeF e) (meetsO fs (srt (1 - e.o.side) (osOf ss)))) := by
    unfold restsF
    congr 1
    rw [Bool.eq_iff_iff]
    simp
    constructor
    · rintro ⟨h1, h2, h3, h4, h5, h6⟩
      exact ⟨⟨⟨⟨⟨h1, h2⟩, h3⟩, by omega⟩, by omega⟩, h6⟩
    · rintro ⟨⟨⟨⟨⟨h1, h2⟩, h3⟩, h4⟩, h5⟩, h6⟩
      exact ⟨h1, h2, h3, by omega, by omega, h6⟩
  rw [hR]
  clear hR S hrd hA hfl
  generalize meetsO fs (srt (1 - e.o.side) (osOf ss)) = mo at *
  generalize beyF e.o.side e.lo e.hi (edgeF e) = bd at *
  generalize edgeF e = ed at *
  generalize staysF e = st at *
  generalize hop : openF e.o.side ed mo = op
  have HOP := Lib.hid hop
  clear hop
  by_cases h1 : left = 0
  · have b1 : (left == 0) = true := by simp [h1]
    clear h1
    go_enter Try.func84, Try.ntmps84
    go_wp2_with (first | ((with_reducible show wpList _ _ _ (⟨_, .load 80 _, _, _, _, _⟩ :: _) _ _); refine wpList_load_ho 80 _ (by rfl) (by rfl) ?_ (.pointer (some ⟨_, 0, none⟩)) (by rfl) ?_ _ Try.underlying80 rfl ?_ ?_; rotate_left; (next => (repeat (first | (with_reducible refine BlkAt.new _ _ _ _ ?_; ((try simp) <;> omega)) | (with_reducible assumption) | (with_reducible refine Blk.at (t := ?_) ?_; rotate_left; with_reducible assumption) | with_reducible refine BlkAt.alloc ?_ _ | with_reducible refine BlkAt.drew ?_ | (with_reducible refine BlkAt.setSame ?_ _ _) | (with_reducible refine BlkAt.setCell ?_ ?_ _; rotate_left; ((try simp) <;> omega)) | (with_reducible refine BlkAt.ext (w := ?_) ?_ ?_; rotate_left 2; (with_reducible assumption)) | fail))); (next => kernel_rfl)) | (go_at_call 86; refine (HE.out _).mono ?_; rintro e w2 ⟨rfl, hb2⟩; (have hcb2 := fun (b o : Nat) (h : b < _) => hb2.cell (p := ⟨b, o, none⟩) h)) | fail)
    go_ret
    exact ⟨ret_bool (by simp [b1]), by (repeat (first | with_reducible exact Below.refl _ _ | (with_reducible assumption) | (with_reducible refine below_alloc ?_ _) | (with_reducible refine below_ext (w1 := ?_) ?_ ?_; rotate_left 2; (with_reducible assumption)) | (with_reducible refine Below.setCell ?_ ?_ _; rotate_left; ((try simp) <;> omega)) | (with_reducible refine Below.drew ?_) | (with_reducible refine below_drewN ?_ _) | fail))⟩
  have b1 : (left == 0) = false := by simp [h1]
  by_cases h2 : stop = 3
  · have b2 : (stop == 3) = true := by simp [h2]
    clear h1 h2
    go_enter Try.func84, Try.ntmps84
    go_wp2_with (first | ((with_reducible show wpList _ _ _ (⟨_, .load 80 _, _, _, _, _⟩ :: _) _ _); refine wpList_load_ho 80 _ (by rfl) (by rfl) ?_ (.pointer (some ⟨_, 0, none⟩)) (by rfl) ?_ _ Try.underlying80 rfl ?_ ?_; rotate_left; (next => (repeat (first | (with_reducible refine BlkAt.new _ _ _ _ ?_; ((try simp) <;> omega)) | (with_reducible assumption) | (with_reducible refine Blk.at (t := ?_) ?_; rotate_left; with_reducible assumption) | with_reducible refine BlkAt.alloc ?_ _ | with_reducible refine BlkAt.drew ?_ | (with_reducible refine BlkAt.setSame ?_ _ _) | (with_reducible refine BlkAt.setCell ?_ ?_ _; rotate_left; ((try simp) <;> omega)) | (with_reducible refine BlkAt.ext (w := ?_) ?_ ?_; rotate_left 2; (with_reducible assumption)) | fail))); (next => kernel_rfl)) | (go_at_call 86; refine (HE.out _).mono ?_; rintro e w2 ⟨rfl, hb2⟩; (have hcb2 := fun (b o : Nat) (h : b < _) => hb2.cell (p := ⟨b, o, none⟩) h)) | fail)
    go_ret
    exact ⟨ret_bool (by simp [b2]), by (repeat (first | with_reducible exact Below.refl _ _ | (with_reducible assumption) | (with_reducible refine below_alloc ?_ _) | (with_reducible refine below_ext (w1 := ?_) ?_ ?_; rotate_left 2; (with_reducible assumption)) | (with_reducible refine Below.setCell ?_ ?_ _; rotate_left; ((try simp) <;> omega)) | (with_reducible refine Below.drew ?_) | (with_reducible refine below_drewN ?_ _) | fail))⟩
  have b2 : (stop == 3) = false := by simp [h2]
  clear h1 h2
  cases st with
  | false =>
    go_enter Try.func84, Try.ntmps84
    go_wp2_with (first | ((with_reducible show wpList _ _ _ (⟨_, .load 80 _, _, _, _, _⟩ :: _) _ _); refine wpList_load_ho 80 _ (by rfl) (by rfl) ?_ (.pointer (some ⟨_, 0, none⟩)) (by rfl) ?_ _ Try.underlying80 rfl ?_ ?_; rotate_left; (next => (repeat (first | (with_reducible refine BlkAt.new _ _ _ _ ?_; ((try simp) <;> omega)) | (with_reducible assumption) | (with_reducible refine Blk.at (t := ?_) ?_; rotate_left; with_reducible assumption) | with_reducible refine BlkAt.alloc ?_ _ | with_reducible refine BlkAt.drew ?_ | (with_reducible refine BlkAt.setSame ?_ _ _) | (with_reducible refine BlkAt.setCell ?_ ?_ _; rotate_left; ((try simp) <;> omega)) | (with_reducible refine BlkAt.ext (w := ?_) ?_ ?_; rotate_left 2; (with_reducible assumption)) | fail))); (next => kernel_rfl)) | (go_at_call 86; refine (HE.out _).mono ?_; rintro e w2 ⟨rfl, hb2⟩; (have hcb2 := fun (b o : Nat) (h : b < _) => hb2.cell (p := ⟨b, o, none⟩) h)) | (go_at_call 132; refine (HS.out _).mono ?_; rintro e w3 ⟨rfl, hb3⟩; (have hcb3 := fun (b o : Nat) (h : b < _) => hb3.cell (p := ⟨b, o, none⟩) h)) | fail)
    go_ret
    exact ⟨ret_bool (by simp), by (repeat (first | with_reducible exact Below.refl _ _ | (with_reducible assumption) | (with_reducible refine below_alloc ?_ _) | (with_reducible refine below_ext (w1 := ?_) ?_ ?_; rotate_left 2; (with_reducible assumption)) | (with_reducible refine Below.setCell ?_ ?_ _; rotate_left; ((try simp) <;> omega)) | (with_reducible refine Below.drew ?_) | (with_reducible refine below_drewN ?_ _) | fail))⟩
  | true =>
    by_cases h3 : ed < 1
    · have b3 : decide (ed < 1) = true := decide_eq_true h3
      go_enter Try.func84, Try.ntmps84
      go_wp2_with (first | ((with_reducible show wpList _ _ _ (⟨_, .load 80 _, _, _, _, _⟩ :: _) _ _); refine wpList_load_ho 80 _ (by rfl) (by rfl) ?_ (.pointer (some ⟨_, 0, none⟩)) (by rfl) ?_ _ Try.underlying80 rfl ?_ ?_; rotate_left; (next => (repeat (first | (with_reducible refine BlkAt.new _ _ _ _ ?_; ((try simp) <;> omega)) | (with_reducible assumption) | (with_reducible refine Blk.at (t := ?_) ?_; rotate_left; with_reducible assumption) | with_reducible refine BlkAt.alloc ?_ _ | with_reducible refine BlkAt.drew ?_ | (with_reducible refine BlkAt.setSame ?_ _ _) | (with_reducible refine BlkAt.setCell ?_ ?_ _; rotate_left; ((try simp) <;> omega)) | (with_reducible refine BlkAt.ext (w := ?_) ?_ ?_; rotate_left 2; (with_reducible assumption)) | fail))); (next => kernel_rfl)) | (go_at_call 86; refine (HE.out _).mono ?_; rintro e w2 ⟨rfl, hb2⟩; (have hcb2 := fun (b o : Nat) (h : b < _) => hb2.cell (p := ⟨b, o, none⟩) h)) | (go_at_call 132; refine (HS.out _).mono ?_; rintro e w3 ⟨rfl, hb3⟩; (have hcb3 := fun (b o : Nat) (h : b < _) => hb3.cell (p := ⟨b, o, none⟩) h)) | fail)
      go_ret
      exact ⟨ret_bool (by simp [b3]), by (repeat (first | with_reducible exact Below.refl _ _ | (with_reducible assumption) | (with_reducible refine below_alloc ?_ _) | (with_reducible refine below_ext (w1 := ?_) ?_ ?_; rotate_left 2; (with_reducible assumption)) | (with_reducible refine Below.setCell ?_ ?_ _; rotate_left; ((try simp) <;> omega)) | (with_reducible refine Below.drew ?_) | (with_reducible refine below_drewN ?_ _) | fail))⟩
    have b3 : decide (ed < 1) = false := decide_eq_false h3
    by_cases h4 : 1099511627776 < ed
    · have b4 : decide (1099511627776 < ed) = true := decide_eq_true h4
      go_enter Try.func84, Try.ntmps84
      go_wp2_with (first | ((with_reducible show wpList _ _ _ (⟨_, .load 80 _, _, _, _, _⟩ :: _) _ _); refine wpList_load_ho 80 _ (by rfl) (by rfl) ?_ (.pointer (some ⟨_, 0, none⟩)) (by rfl) ?_ _ Try.underlying80 rfl ?_ ?_; rotate_left; (next => (repeat (first | (with_reducible refine BlkAt.new _ _ _ _ ?_; ((try simp) <;> omega)) | (with_reducible assumption) | (with_reducible refine Blk.at (t := ?_) ?_; rotate_left; with_reducible assumption) | with_reducible refine BlkAt.alloc ?_ _ | with_reducible refine BlkAt.drew ?_ | (with_reducible refine BlkAt.setSame ?_ _ _) | (with_reducible refine BlkAt.setCell ?_ ?_ _; rotate_left; ((try simp) <;> omega)) | (with_reducible refine BlkAt.ext (w := ?_) ?_ ?_; rotate_left 2; (with_reducible assumption)) | fail))); (next => kernel_rfl)) | (go_at_call 86; refine (HE.out _).mono ?_; rintro e w2 ⟨rfl, hb2⟩; (have hcb2 := fun (b o : Nat) (h : b < _) => hb2.cell (p := ⟨b, o, none⟩) h)) | (go_at_call 132; refine (HS.out _).mono ?_; rintro e w3 ⟨rfl, hb3⟩; (have hcb3 := fun (b o : Nat) (h : b < _) => hb3.cell (p := ⟨b, o, none⟩) h)) | fail)
      go_ret
      exact ⟨ret_bool (by simp [b4]), by (repeat (first | with_reducible exact Below.refl _ _ | (with_reducible assumption) | (with_reducible refine below_alloc ?_ _) | (with_reducible refine below_ext (w1 := ?_) ?_ ?_; rotate_left 2; (with_reducible assumption)) | (with_reducible refine Below.setCell ?_ ?_ _; rotate_left; ((try simp) <;> omega)) | (with_reducible refine Below.drew ?_) | (with_reducible refine below_drewN ?_ _) | fail))⟩
    have b4 : decide (1099511627776 < ed) = false := decide_eq_false h4
    cases bd with
    | true =>
      go_enter Try.func84, Try.ntmps84
      go_wp2_with (first | ((with_reducible show wpList _ _ _ (⟨_, .load 80 _, _, _, _, _⟩ :: _) _ _); refine wpList_load_ho 80 _ (by rfl) (by rfl) ?_ (.pointer (some ⟨_, 0, none⟩)) (by rfl) ?_ _ Try.underlying80 rfl ?_ ?_; rotate_left; (next => (repeat (first | (with_reducible refine BlkAt.new _ _ _ _ ?_; ((try simp) <;> omega)) | (with_reducible assumption) | (with_reducible refine Blk.at (t := ?_) ?_; rotate_left; with_reducible assumption) | with_reducible refine BlkAt.alloc ?_ _ | with_reducible refine BlkAt.drew ?_ | (with_reducible refine BlkAt.setSame ?_ _ _) | (with_reducible refine BlkAt.setCell ?_ ?_ _; rotate_left; ((try simp) <;> omega)) | (with_reducible refine BlkAt.ext (w := ?_) ?_ ?_; rotate_left 2; (with_reducible assumption)) | fail))); (next => kernel_rfl)) | (go_at_call 86; refine (HE.out _).mono ?_; rintro e w2 ⟨rfl, hb2⟩; (have hcb2 := fun (b o : Nat) (h : b < _) => hb2.cell (p := ⟨b, o, none⟩) h)) | (go_at_call 132; refine (HS.out _).mono ?_; rintro e w3 ⟨rfl, hb3⟩; (have hcb3 := fun (b o : Nat) (h : b < _) => hb3.cell (p := ⟨b, o, none⟩) h)) | (go_at_call 133; refine (HB.out _).mono ?_; rintro e w4 ⟨rfl, hb4⟩; (have hcb4 := fun (b o : Nat) (h : b < _) => hb4.cell (p := ⟨b, o, none⟩) h)) | fail)
      go_ret
      exact ⟨ret_bool (by simp), by (repeat (first | with_reducible exact Below.refl _ _ | (with_reducible assumption) | (with_reducible refine below_alloc ?_ _) | (with_reducible refine below_ext (w1 := ?_) ?_ ?_; rotate_left 2; (with_reducible assumption)) | (with_reducible refine Below.setCell ?_ ?_ _; rotate_left; ((try simp) <;> omega)) | (with_reducible refine Below.drew ?_) | (with_reducible refine below_drewN ?_ _) | fail))⟩
    | false =>
      have hE0 : Blk ((w.alloc (.cells e.arr 80)).alloc (.cells #[.slice A fs.length cap, .int .i64 left, .int .i64 stop] 65)) w.heap.size 80 e.arr := (Blk.new w _ _ _ rfl).alloc _
      have hP0 : Blk ((w.alloc (.cells e.arr 80)).alloc (.cells #[.slice A fs.length cap, .int .i64 left, .int .i64 stop] 65)) (w.heap.size + 1) 65 #[.slice A fs.length cap, .int .i64 left, .int .i64 stop] := Blk.new _ _ _ _ (sz_alloc _ _)
      have hb0 : Below w.heap.size w ((w.alloc (.cells e.arr 80)).alloc (.cells #[.slice A fs.length cap, .int .i64 left, .int .i64 stop] 65)) := by (repeat (first | with_reducible exact Below.refl _ _ | (with_reducible assumption) | (with_reducible refine below_alloc ?_ _) | (with_reducible refine below_ext (w1 := ?_) ?_ ?_; rotate_left 2; (with_reducible assumption)) | (with_reducible refine Below.setCell ?_ ?_ _; rotate_left; ((try simp) <;> omega)) | (with_reducible refine Below.drew ?_) | (with_reducible refine below_drewN ?_ _) | fail))
      cases mo with
      | none =>
        have ho : op = true := by rw [← HOP.out]; rfl
        have HO := Lib.hid ho
        clear ho
        go_enter Try.func84, Try.ntmps84
        go_wp2_with (first | ((with_reducible show wpList _ _ _ (⟨_, .load 80 _, _, _, _, _⟩ :: _) _ _); refine wpList_load_ho 80 _ (by rfl) (by rfl) ?_ (.pointer (some ⟨_, 0, none⟩)) (by rfl) ?_ _ Try.underlying80 rfl ?_ ?_; rotate_left; (next => (repeat (first | (with_reducible refine BlkAt.new _ _ _ _ ?_; ((try simp) <;> omega)) | (with_reducible assumption) | (with_reducible refine Blk.at (t := ?_) ?_; rotate_left; with_reducible assumption) | with_reducible refine BlkAt.alloc ?_ _ | with_reducible refine BlkAt.drew ?_ | (with_reducible refine BlkAt.setSame ?_ _ _) | (with_reducible refine BlkAt.setCell ?_ ?_ _; rotate_left; ((try simp) <;> omega)) | (with_reducible refine BlkAt.ext (w := ?_) ?_ ?_; rotate_left 2; (with_reducible assumption)) | fail))); (next => kernel_rfl)) | ((with_reducible show wpList _ _ _ (⟨_, .load 65 _, _, _, _, _⟩ :: _) _ _); refine wpList_load_ho 65 _ (by rfl) (by rfl) ?_ (.pointer (some ⟨_, 0, none⟩)) (by rfl) ?_ _ Try.underlying65 rfl ?_ ?_; rotate_left; (next => (repeat (first | (with_reducible refine BlkAt.new _ _ _ _ ?_; ((try simp) <;> omega)) | (with_reducible assumption) | (with_reducible refine Blk.at (t := ?_) ?_; rotate_left; with_reducible assumption) | with_reducible refine BlkAt.alloc ?_ _ | with_reducible refine BlkAt.drew ?_ | (with_reducible refine BlkAt.setSame ?_ _ _) | (with_reducible refine BlkAt.setCell ?_ ?_ _; rotate_left; ((try simp) <;> omega)) | (with_reducible refine BlkAt.ext (w := ?_) ?_ ?_; rotate_left 2; (with_reducible assumption)) | fail))); (next => kernel_rfl)) | (go_at_call 86; refine (HE.out _).mono ?_; rintro x w2 ⟨rfl, hb2⟩; have hE2 := hE0.ext hb2; have hP2 := hP0.ext hb2; have p1 : w2.cell? ⟨w.heap.size + 1, 1, none⟩ = some (.int .i64 left) := hP2.cell 1; have p2 : w2.cell? ⟨w.heap.size + 1, 2, none⟩ = some (.int .i64 stop) := hP2.cell 2) | (go_at_call 132; refine (HS.out _).mono ?_; rintro x w3 ⟨rfl, hb3⟩; have hE3 := hE2.ext hb3; have hP3 := hP2.ext hb3) | (go_at_call 133; refine (HB.out _).mono ?_; rintro x w4 ⟨rfl, hb4⟩; have hE4 := hE3.ext hb4; have hP4 := hP3.ext hb4; have c2 : w4.cell? ⟨w.heap.size, 2, none⟩ = some (.int .i64 e.o.side) := hE4.cell 2) | fail)
        have hbw : Below w.heap.size w w4 := below_ext hb0 (below_ext hb2 (below_ext hb3 hb4))
        refine (HM.out _ hbw).mono ?_
        rintro x w5 ⟨rfl, hb5⟩
        go_wp2_with fail
        go_ret
        exact ⟨ret_bool (by simp [b1, b2, b3, b4, HO.out]), below_ext hbw hb5⟩
      | some q =>
        have ho : op = bet e.o.side q ed := by rw [← HOP.out]; rfl
        have HO := Lib.hid ho
        clear ho
        go_enter Try.func84, Try.ntmps84
        go_wp2_with (first | ((with_reducible show wpList _ _ _ (⟨_, .load 80 _, _, _, _, _⟩ :: _) _ _); refine wpList_load_ho 80 _ (by rfl) (by rfl) ?_ (.pointer (some ⟨_, 0, none⟩)) (by rfl) ?_ _ Try.underlying80 rfl ?_ ?_; rotate_left; (next => (repeat (first | (with_reducible refine BlkAt.new _ _ _ _ ?_; ((try simp) <;> omega)) | (with_reducible assumption) | (with_reducible refine Blk.at (t := ?_) ?_; rotate_left; with_reducible assumption) | with_reducible refine BlkAt.alloc ?_ _ | with_reducible refine BlkAt.drew ?_ | (with_reducible refine BlkAt.setSame ?_ _ _) | (with_reducible refine BlkAt.setCell ?_ ?_ _; rotate_left; ((try simp) <;> omega)) | (with_reducible refine BlkAt.ext (w := ?_) ?_ ?_; rotate_left 2; (with_reducible assumption)) | fail))); (next => kernel_rfl)) | ((with_reducible show wpList _ _ _ (⟨_, .load 65 _, _, _, _, _⟩ :: _) _ _); refine wpList_load_ho 65 _ (by rfl) (by rfl) ?_ (.pointer (some ⟨_, 0, none⟩)) (by rfl) ?_ _ Try.underlying65 rfl ?_ ?_; rotate_left; (next => (repeat (first | (with_reducible refine BlkAt.new _ _ _ _ ?_; ((try simp) <;> omega)) | (with_reducible assumption) | (with_reducible refine Blk.at (t := ?_) ?_; rotate_left; with_reducible assumption) | with_reducible refine BlkAt.alloc ?_ _ | with_reducible refine BlkAt.drew ?_ | (with_reducible refine BlkAt.setSame ?_ _ _) | (with_reducible refine BlkAt.setCell ?_ ?_ _; rotate_left; ((try simp) <;> omega)) | (with_reducible refine BlkAt.ext (w := ?_) ?_ ?_; rotate_left 2; (with_reducible assumption)) | fail))); (next => kernel_rfl)) | (go_at_call 86; refine (HE.out _).mono ?_; rintro x w2 ⟨rfl, hb2⟩; have hE2 := hE0.ext hb2; have hP2 := hP0.ext hb2; have p1 : w2.cell? ⟨w.heap.size + 1, 1, none⟩ = some (.int .i64 left) := hP2.cell 1; have p2 : w2.cell? ⟨w.heap.size + 1, 2, none⟩ = some (.int .i64 stop) := hP2.cell 2) | (go_at_call 132; refine (HS.out _).mono ?_; rintro x w3 ⟨rfl, hb3⟩; have hE3 := hE2.ext hb3; have hP3 := hP2.ext hb3) | (go_at_call 133; refine (HB.out _).mono ?_; rintro x w4 ⟨rfl, hb4⟩; have hE4 := hE3.ext hb4; have hP4 := hP3.ext hb4; have c2 : w4.cell? ⟨w.heap.size, 2, none⟩ = some (.int .i64 e.o.side) := hE4.cell 2) | fail)
        have hbw : Below w.heap.size w w4 := below_ext hb0 (below_ext hb2 (below_ext hb3 hb4))
        refine (HM.out _ hbw).mono ?_
        rintro x w5 ⟨rfl, hb5⟩
        have c5 : w5.cell? ⟨w.heap.size, 2, none⟩ = some (.int .i64 e.o.side) := (hE4.ext hb5).cell 2
        go_wp2_with (first | (go_at_call 28; refine (HBT.out _ _).mono ?_; rintro x w6 ⟨rfl, rfl⟩) | fail)
        go_ret
        exact ⟨ret_bool (by simp [b1, b2, b3, b4, HO.out]), below_ext hbw hb5⟩
end
end Ma
end Go.Proofs.Ytgaialcbpglhaaa
namespace Go.Proofs.Ytgaialcbpglhaaa
set_option linter.unusedVariables false
namespace Ma
open Bk (bet srt sdO fndI roomO addF addO frontO)
open Sw (Tk Fl mk mkP wrs trd appF Pok rchO)
/-- What an order's type promises of its result. -/
structure Tok (e : En) (r : Rs) : Prop where
  all : e.typ = 4 → r.gone = 0 ∧ r.rest.qty = 0 ∧ trd r.fills = e.o.qty
  post : e.typ = 5 → r.fills = []
  now : e.typ = 2 ∨ e.typ = 3 → r.rest.qty = 0
  fill : ∀ f ∈ r.fills, e.lo ≤ f.price ∧ f.price ≤ e.hi ∧ (e.typ ≠ 2 → bet e.o.side f.price e.o.price = false)
  rest : 0 < r.rest.qty → ¬ (e.o.side = 0 ∧ e.hi < r.rest.price) ∧ ¬ (e.o.side = 1 ∧ r.rest.price < e.lo)
  len : r.fills.length ≤ 500
  pos : ∀ f ∈ r.fills, 0 ≤ f.qty
  sum : trd r.fills ≤ 4294967296
theorem ent_two {N most : Nat} {os : List Ord} {e : En} (hc : checkF N most os e = 0) :
    (restsF os e (mkP (tkE e) os) = true ∧ enterF N most os e = (⟨0, (mkP (tkE e) os).1, restO e (mkP (tkE e) os).2.1, 0, 0⟩, addO N most (appF (mkP (tkE e) os).1 os).2 (restO e (mkP (tkE e) os).2.1))) ∨
    (restsF os e (mkP (tkE e) os) = false ∧ enterF N most os e = (⟨0, (mkP (tkE e) os).1, Are.ord0, (mkP (tkE e) os).2.1, whyF e (mkP (tkE e) os)⟩, (appF (mkP (tkE e) os).1 os).2)) := by
  cases hr : restsF os e (mkP (tkE e) os) with
  | true => exact .inl ⟨rfl, by unfold enterF; rw [if_neg (by rw [hc]; simp), if_pos hr]⟩
  | false => exact .inr ⟨rfl, by unfold enterF; rw [if_neg (by rw [hc]; simp), if_neg (by rw [hr]; simp)]⟩
theorem enter_fault (N most : Nat) (os : List Ord) (e : En) : (enterF N most os e).1.fault = checkF N most os e := by
  by_cases hc : checkF N most os e = 0
  · rcases ent_two hc with ⟨_, h⟩ | ⟨_, h⟩ <;> rw [h, hc]
  · unfold enterF
    rw [if_pos hc]
theorem wrs_off {s p l : Int} (h : wrs s p l = false) (hl : l ≠ 0) : bet s p l = false := by
  unfold wrs at h
  rw [decide_eq_true hl, Bool.true_and] at h
  exact h
theorem types_ok {N most : Nat} {os : List Ord} {e : En} (hok : ∀ o ∈ os, 1 ≤ o.qty) (hlen : os.length ≤ 500) (hf : (enterF N most os e).1.fault = 0) : Tok e (enterF N most os e).1 := by
  have hc : checkF N most os e = 0 := by rw [← enter_fault]; exact hf
  have G := good hc
  have P := G.pok hok
  have hl := Nat.le_trans (mkP_len (tkE e) os) hlen
  have hfl : ∀ f ∈ (mkP (tkE e) os).1, e.lo ≤ f.price ∧ f.price ≤ e.hi ∧ (e.typ ≠ 2 → bet e.o.side f.price e.o.price = false) := by
    intro f hm
    obtain ⟨i, hi, rfl⟩ := List.getElem_of_mem hm
    have F := P.fill i hi (Nat.lt_of_lt_of_le hi P.len)
    refine ⟨F.band.1, F.band.2, fun ht => ?_⟩
    have hlim : (tkE e).limit = e.o.price := by show limF e = _; unfold limF; rw [if_neg ht]
    have h := F.lim
    rw [hlim] at h
    refine wrs_off h (fun h0 => ?_)
    have hr := G.ranged
    unfold rangedF at hr
    rw [if_neg ht] at hr
    have := of_decide_eq_false hr
    omega
  have hpos : ∀ f ∈ (mkP (tkE e) os).1, 0 ≤ f.qty := fun f hm => by have := P.pos f hm; omega
  have hsum : trd (mkP (tkE e) os).1 ≤ 4294967296 := by have := P.sum; have := P.left; have := G.qty.2; omega
  rcases ent_two hc with ⟨hr, h⟩ | ⟨hr, h⟩
  · obtain ⟨h1, h2, h3, h4, h5, h6⟩ := rests_left hr
    rw [h]
    refine ⟨fun ht => ?_, fun ht => G.post_none ht, fun ht => ?_, hfl, fun _ => ?_, hl, hpos, hsum⟩
    · unfold staysF at h2
      have := of_decide_eq_true h2
      omega
    · unfold staysF at h2
      have := of_decide_eq_true h2
      omega
    · unfold beyF at h5
      have h7 := of_decide_eq_false h5
      exact ⟨fun h => h7 (.inl h), fun h => h7 (.inr h)⟩
  · rw [h]
    refine ⟨fun ht => ?_, fun ht => G.post_none ht, fun _ => rfl, hfl, fun h0 => absurd (show (0 : Int) < 0 from h0) (by decide), hl, hpos, hsum⟩
    have h1 := G.all ht
    have h2 := P.left
    have h3 := P.sum
    refine ⟨?_, rfl, ?_⟩
    · show (mkP (tkE e) os).2.1 = 0
      omega
    · show trd (mkP (tkE e) os).1 = e.o.qty
      omega
end Ma
end Go.Proofs.Ytgaialcbpglhaaa
namespace Go.Proofs.Ytgaialcbpglhaaa
set_option linter.unusedVariables false
namespace Ma
open Bk (bet srt sdO fndI roomO addF addO frontO rmI redO redF rdI less crossO sided inRng fitsO prices dst okO)
open Sw (Tk Fl mk mkP wrs trd appF Pok rchO)
/-- Are two orders one and the same, but for the quantity? -/
def Alike (y x : Ord) : Prop := y.id = x.id ∧ y.side = x.side ∧ y.price = x.price
theorem rd_sub {id z : Int} {os : List Ord} {x : Ord} (h : x ∈ rdI id z os) : ∃ y ∈ os, Alike y x := by
  unfold rdI at h
  obtain ⟨y, hy, rfl⟩ := List.mem_map.1 h
  refine ⟨y, hy, ?_⟩
  split
  · exact ⟨rfl, rfl, rfl⟩
  · exact ⟨rfl, rfl, rfl⟩
theorem rm_sub {id : Int} {os : List Ord} {x : Ord} (h : x ∈ rmI id os) : x ∈ os ∧ x.id ≠ id := by
  unfold rmI at h
  obtain ⟨h1, h2⟩ := List.mem_filter.1 h
  exact ⟨h1, by simpa using h2⟩
theorem redO_sub {id z : Int} {os : List Ord} {x : Ord} (h : x ∈ redO id z os) : ∃ y ∈ os, Alike y x := by
  unfold redO at h
  split at h
  · exact ⟨x, h, rfl, rfl, rfl⟩
  · split at h
    · exact ⟨x, h, rfl, rfl, rfl⟩
    · split at h
      · exact ⟨x, (rm_sub h).1, rfl, rfl, rfl⟩
      · exact rd_sub h
theorem appF_sub : ∀ (fs : List Fl) (os : List Ord), ∀ x ∈ (appF fs os).2, ∃ y ∈ os, Alike y x
  | [], os, x, h => ⟨x, h, rfl, rfl, rfl⟩
  | f :: l, os, x, h => by
    unfold appF at h
    split at h
    · split at h
      · obtain ⟨y, hy, h1⟩ := appF_sub l _ x h
        exact ⟨y, (rm_sub hy).1, h1⟩
      · exact ⟨x, h, rfl, rfl, rfl⟩
    · split at h
      · obtain ⟨y, hy, h1⟩ := appF_sub l _ x h
        obtain ⟨z, hz, h2⟩ := redO_sub hy
        exact ⟨z, hz, h2.1.trans h1.1, h2.2.1.trans h1.2.1, h2.2.2.trans h1.2.2⟩
      · exact ⟨x, h, rfl, rfl, rfl⟩
/-- Fills that go with orders in a row: each with its order, whole but for the last one. -/
structure Goes (fs : List Fl) (l os : List Ord) : Prop where
  len : fs.length ≤ l.length
  ok : ∀ i (h1 : i < fs.length) (h2 : i < l.length), fs[i].id = l[i].id ∧ 1 ≤ fs[i].qty ∧ fs[i].qty ≤ l[i].qty ∧ (fs[i].gone = true → fs[i].qty = l[i].qty)
  full : ∀ i (h : i + 1 < fs.length) (h' : i < l.length), fs[i].qty = l[i].qty
  ids : (l.map (·.id)).Nodup
  nod : (os.map (·.id)).Nodup
  fnd : ∀ o ∈ l, fndI o.id os = some o
theorem fnd_in {id : Int} {os : List Ord} {o : Ord} (h : fndI id os = some o) : o ∈ os ∧ o.id = id := by
  unfold fndI at h
  exact ⟨List.mem_of_find?_eq_some h, by simpa using List.find?_some h⟩
/-- The first fill's step. -/
def stepO (f : Fl) (os : List Ord) : List Ord := if f.gone = true then rmI f.id os else redO f.id f.qty os
theorem rm_nod {id : Int} {os : List Ord} (h : (os.map (·.id)).Nodup) : ((rmI id os).map (·.id)).Nodup := h.sublist (List.Sublist.map _ List.filter_sublist)
theorem rd_ids (id z : Int) (os : List Ord) : (rdI id z os).map (·.id) = os.map (·.id) := by
  unfold rdI
  rw [List.map_map]
  refine List.map_congr_left (fun o _ => ?_)
  show (if o.id = id then less o z else o).id = o.id
  split <;> rfl
theorem Goes.step {f : Fl} {fs : List Fl} {o : Ord} {l os : List Ord} (G : Goes (f :: fs) (o :: l) os) : appF (f :: fs) os = appF fs (stepO f os) ∧ Goes fs l (stepO f os) ∧ (f.qty = o.qty → stepO f os = rmI o.id os) ∧ (f.qty ≠ o.qty → stepO f os = rdI o.id f.qty os ∧ fs = []) := by
  obtain ⟨h1, h2, h3, h4⟩ := G.ok 0 (by simp) (by simp)
  simp only [List.getElem_cons_zero] at h1 h2 h3 h4
  have hfo : fndI f.id os = some o := by rw [h1]; exact G.fnd o (by simp)
  have hids := G.ids
  rw [List.map_cons, List.nodup_cons] at hids
  have hne : ∀ x ∈ l, x.id ≠ f.id := fun x hx e => hids.1 (by rw [← h1, ← e]; exact List.mem_map.2 ⟨x, hx, rfl⟩)
  have hwh : f.qty = o.qty → stepO f os = rmI o.id os := fun e => by
    unfold stepO
    split
    · rw [h1]
    · unfold redO
      rw [hfo]
      simp only
      rw [if_neg (by omega), if_pos e, h1]
  have hpt : f.qty ≠ o.qty → stepO f os = rdI o.id f.qty os ∧ fs = [] := fun e => by
    refine ⟨?_, ?_⟩
    · unfold stepO
      rw [if_neg (fun hg => e (h4 hg))]
      unfold redO
      rw [hfo]
      simp only
      rw [if_neg (by omega), if_neg e, h1]
    · cases fs with
      | nil => rfl
      | cons g fs' =>
        have := G.full 0 (by simp) (by simp)
        simp only [List.getElem_cons_zero] at this
        exact absurd this e
  refine ⟨?_, ⟨by simpa using G.len, fun i a b => ?_, fun i a b => ?_, hids.2, ?_, fun x hx => ?_⟩, hwh, hpt⟩
  · unfold stepO
    conv => lhs; unfold appF
    by_cases hg : f.gone = true
    · rw [if_pos hg, if_pos hg, hfo]
      rfl
    · rw [if_neg hg, if_neg hg]
      have : (redF f.id f.qty os).1 = 0 := by
        unfold redF
        rw [hfo]
        simp only
        rw [if_neg (by omega)]
      rw [if_pos this]
  · have := G.ok (i + 1) (by simpa using a) (by simpa using b)
    simpa using this
  · have := G.full (i + 1) (by simpa using a) (by simpa using b)
    simpa using this
  · by_cases e : f.qty = o.qty
    · rw [hwh e]; exact rm_nod G.nod
    · rw [(hpt e).1, rd_ids]; exact G.nod
  · by_cases e : f.qty = o.qty
    · rw [hwh e, ← h1, Sw.fnd_rm (hne x hx)]; exact G.fnd x (by simp [hx])
    · rw [(hpt e).1, ← h1, Sw.fnd_rd (hne x hx)]; exact G.fnd x (by simp [hx])
theorem appF_none {id : Int} {fs : List Fl} {os : List Ord} (h : ∀ y ∈ os, y.id ≠ id) : ∀ x ∈ (appF fs os).2, x.id ≠ id := fun x hx e => by
  obtain ⟨y, hy, h1⟩ := appF_sub fs os x hx
  exact h y hy (h1.1.trans e)
/-- A whole fill's order is gone. -/
theorem Goes.gone : ∀ {fs : List Fl} {l os : List Ord}, Goes fs l os → ∀ i (h1 : i < fs.length) (h2 : i < l.length), fs[i].qty = l[i].qty → ∀ x ∈ (appF fs os).2, x.id ≠ l[i].id
  | [], l, os, G, i, h1, _, _ => absurd h1 (Nat.not_lt_zero _)
  | f :: fs, [], os, G, i, _, h2, _ => absurd h2 (Nat.not_lt_zero _)
  | f :: fs, o :: l, os, G, i, h1, h2, he => by
    obtain ⟨s1, s2, s3, s4⟩ := G.step
    rw [s1]
    cases i with
    | zero =>
      simp only [List.getElem_cons_zero] at he ⊢
      refine appF_none (fun y hy => ?_)
      rw [s3 he] at hy
      exact (rm_sub hy).2
    | succ i =>
      simp only [List.getElem_cons_succ] at he ⊢
      exact s2.gone i (by simpa using h1) (by simpa using h2) he
/-- How many orders are left. -/
theorem Goes.count : ∀ {fs : List Fl} {l os : List Ord}, Goes fs l os → (appF fs os).2.length + fs.length ≤ os.length + 1
  | [], l, os, G => by simp [appF]
  | f :: fs, [], os, G => by have := G.len; simp at this
  | f :: fs, o :: l, os, G => by
    obtain ⟨s1, s2, s3, s4⟩ := G.step
    rw [s1]
    have ih := s2.count
    by_cases e : f.qty = o.qty
    · rw [s3 e] at ih ⊢
      have hm := (fnd_in (G.fnd o (by simp))).1
      have := Bk.rm_len G.nod hm
      simp only [List.length_cons]
      omega
    · obtain ⟨h1, h2⟩ := s4 e
      subst h2
      rw [h1]
      simp [appF, rdI]
/-- What is on the other side is left alone. -/
theorem Goes.own {s : Int} : ∀ {fs : List Fl} {l os : List Ord}, Goes fs l os → (∀ o ∈ l, o.side ≠ s) → sdO s (appF fs os).2 = sdO s os
  | [], l, os, G, _ => by simp [appF]
  | f :: fs, [], os, G, _ => by have := G.len; simp at this
  | f :: fs, o :: l, os, G, hs => by
    obtain ⟨s1, s2, s3, s4⟩ := G.step
    rw [s1, s2.own (fun x hx => hs x (by simp [hx]))]
    have ho := hs o (by simp)
    obtain ⟨hm, _⟩ := fnd_in (G.fnd o (by simp))
    have huni : ∀ x ∈ os, x.id = o.id → x = o := fun x hx e => by
      have h1 := Bk.fnd_mem G.nod hx
      have h2 := Bk.fnd_mem G.nod hm
      rw [e] at h1
      rw [h1] at h2
      exact Option.some.inj h2
    by_cases e : f.qty = o.qty
    · rw [s3 e]
      unfold sdO rmI
      rw [List.filter_filter]
      refine List.filter_congr (fun x hx => ?_)
      by_cases hid : x.id = o.id
      · rw [huni x hx hid]
        simp [ho]
      · simp [hid]
    · rw [(s4 e).1]
      unfold sdO rdI
      rw [List.filter_map]
      have h1 : (os.filter ((fun x => decide (x.side = s)) ∘ fun x => if x.id = o.id then less x f.qty else x)) = os.filter (fun x => decide (x.side = s)) := by
        refine List.filter_congr (fun x hx => ?_)
        simp only [Function.comp]
        split <;> rfl
      rw [h1]
      have : ∀ x ∈ os.filter (fun x => decide (x.side = s)), (if x.id = o.id then less x f.qty else x) = x := fun x hx => by
        obtain ⟨h2, h3⟩ := List.mem_filter.1 hx
        rw [if_neg]
        intro h4
        rw [huni x h2 h4] at h3
        simp [ho] at h3
      rw [List.map_congr_left this, List.map_id']
end Ma
end Go.Proofs.Ytgaialcbpglhaaa
namespace Go.Proofs.Ytgaialcbpglhaaa
set_option linter.unusedVariables false
namespace Ma
open Bk (bet srt sdO fndI roomO addF addO frontO rmI redO redF rdI less crossO sided inRng fitsO prices dst okO)
open Sw (Tk Fl mk mkP wrs trd appF Pok rchO)
theorem meets_none : ∀ {fs : List Fl} {l : List Ord}, meetsO fs l = none → ∀ i (h : i < l.length), ∃ h1 : i < fs.length, fs[i].qty = l[i].qty
  | _, [], _, i, h => absurd h (Nat.not_lt_zero _)
  | [], o :: l, h, _, _ => by simp [meetsO] at h
  | f :: fs, o :: l, h, i, hi => by
    unfold meetsO at h
    split at h
    · rename_i hc
      cases i with
      | zero => exact ⟨by simp, hc.2⟩
      | succ i =>
        obtain ⟨h1, h2⟩ := meets_none h i (by simpa using hi)
        exact ⟨by simpa using h1, by simpa using h2⟩
    · cases h
theorem meets_some : ∀ {fs : List Fl} {l : List Ord} {p : Int}, meetsO fs l = some p → ∃ m, ∃ h : m < l.length, p = l[m].price ∧ ∀ i (hi : i < m), ∃ h1 : i < fs.length, fs[i].qty = (l[i]'(Nat.lt_trans hi h)).qty
  | fs, [], p, h => by cases fs <;> simp [meetsO] at h
  | [], o :: l, p, h => by
    simp only [meetsO, Option.some.injEq] at h
    exact ⟨0, by simp, h.symm, fun i hi => absurd hi (Nat.not_lt_zero _)⟩
  | f :: fs, o :: l, p, h => by
    unfold meetsO at h
    split at h
    · rename_i hc
      obtain ⟨m, hm, h1, h2⟩ := meets_some h
      refine ⟨m + 1, by simpa using hm, by simpa using h1, fun i hi => ?_⟩
      cases i with
      | zero => exact ⟨by simp, hc.2⟩
      | succ i =>
        obtain ⟨h3, h4⟩ := h2 i (by omega)
        exact ⟨by simpa using h3, by simpa using h4⟩
    · simp only [Option.some.injEq] at h
      exact ⟨0, by simp, h.symm, fun i hi => absurd hi (Nat.not_lt_zero _)⟩
/-- No order to buy meets one to sell. -/
def Unc (os : List Ord) : Prop := ∀ x ∈ os, ∀ y ∈ os, x.side = 0 → y.side = 1 → x.price < y.price
theorem front_mem {n : Int} {os : List Ord} {x : Ord} (h : frontO n os = some x) : x ∈ os ∧ x.side = n := by
  unfold frontO at h
  split at h
  · have h1 : x ∈ srt n os := List.mem_of_head? h
    have h2 := (Bk.srt_perm n os).mem_iff.1 h1
    obtain ⟨h3, h4⟩ := List.mem_filter.1 h2
    exact ⟨h3, by simpa using h4⟩
  · cases h
theorem unc_cross {os : List Ord} (h : Unc os) : crossO os = false := by
  unfold crossO
  split
  · rename_i x y hx hy
    obtain ⟨h1, h2⟩ := front_mem hx
    obtain ⟨h3, h4⟩ := front_mem hy
    have := h x h1 y h3 h2 h4
    exact decide_eq_false (by omega)
  · rfl
theorem unc_app {fs : List Fl} {os : List Ord} (h : Unc os) : Unc (appF fs os).2 := by
  intro x hx y hy h1 h2
  obtain ⟨x', hx', e1, e2, e3⟩ := appF_sub fs os x hx
  obtain ⟨y', hy', f1, f2, f3⟩ := appF_sub fs os y hy
  have := h x' hx' y' hy' (e2.trans h1) (f2.trans h2)
  omega
theorem Good.goes {N most : Nat} {os : List Ord} {e : En} (G : Good N most os e) (hok : ∀ o ∈ os, 1 ≤ o.qty) (hn : (os.map (·.id)).Nodup) : Goes (mkP (tkE e) os).1 (srt (1 - e.o.side) os) os := by
  have P := G.pok hok
  refine ⟨P.len, fun i h1 h2 => ?_, fun i h1 h2 => P.full i h1 h2, ?_, hn, fun o ho => ?_⟩
  · have F := P.fill i h1 h2
    exact ⟨F.id, F.pos, F.le, F.whole⟩
  · exact (((Bk.srt_perm _ os).map (·.id)).nodup_iff).2 (hn.sublist (List.Sublist.map _ List.filter_sublist))
  · exact Bk.fnd_mem hn (Sw.srt_mem ho)
/-- What is left of the other side is worse than where the order rests. -/
theorem left_open {s edge : Int} (hs : s = 0 ∨ s = 1) {fs : List Fl} {os : List Ord} (G : Goes fs (srt (1 - s) os) os) (ho : openF s edge (meetsO fs (srt (1 - s) os)) = true) : ∀ y ∈ (appF fs os).2, y.side = 1 - s → bet s y.price edge = true := by
  intro y hy hside
  obtain ⟨z, hz, e1, e2, e3⟩ := appF_sub fs os y hy
  have hzs : z ∈ srt (1 - s) os := (Bk.srt_perm _ os).mem_iff.2 (List.mem_filter.2 ⟨hz, by simp [e2, hside]⟩)
  obtain ⟨j, hj, hje⟩ := List.getElem_of_mem hzs
  have hno : ∀ h1 : j < fs.length, fs[j].qty ≠ (srt (1 - s) os)[j].qty := fun h1 he => by
    have := G.gone j h1 hj he y hy
    rw [hje] at this
    exact this e1.symm
  have hfair : (srt (1 - s) os).Pairwise (Bk.Fair (1 - s) (fun _ _ => True)) := Bk.srt_fair (List.pairwise_of_forall (fun _ _ => trivial))
  cases hm : meetsO fs (srt (1 - s) os) with
  | none =>
    obtain ⟨h1, h2⟩ := meets_none hm j hj
    exact absurd h2 (hno h1)
  | some q =>
    rw [hm] at ho
    obtain ⟨m, hml, hq, hfull⟩ := meets_some hm
    have hbq : bet s q edge = true := ho
    have hjm : ¬ j < m := fun h => by
      obtain ⟨h1, h2⟩ := hfull j h
      exact hno h1 h2
    have hbet : bet (1 - s) y.price q = false := by
      rw [← e3, ← hje, hq]
      rcases Nat.lt_or_ge m j with h | h
      · exact (List.pairwise_iff_getElem.1 hfair m j hml hj h).1
      · have : j = m := by omega
        subst this
        exact Bk.bet_self _ _
    unfold bet at hbq hbet ⊢
    have h1 := of_decide_eq_true hbq
    have h2 := of_decide_eq_false hbet
    exact decide_eq_true (by omega)
theorem any_sd (n p : Int) (os : List Ord) : (os.any fun o => decide (o.side = n ∧ o.price = p)) = (sdO n os).any fun o => decide (o.price = p) := by
  unfold sdO
  rw [List.any_filter]
  congr 1
  funext o
  by_cases h1 : o.side = n <;> by_cases h2 : o.price = p <;> simp [h1, h2]
theorem room_less {N most : Nat} {s p : Int} {os os1 : List Ord} (h : roomO N most s p os = true) (h1 : sdO s os1 = sdO s os) (h2 : os1.length ≤ os.length) : roomO N most s p os1 = true := by
  unfold roomO fitsO at h ⊢
  rw [any_sd] at h ⊢
  unfold prices at h ⊢
  rw [h1]
  simp only [Bool.and_eq_true, decide_eq_true_eq] at h ⊢
  exact ⟨h.1, by omega⟩
theorem fnd_no {id : Int} {os : List Ord} (h : ∀ x ∈ os, x.id ≠ id) : fndI id os = none := by
  unfold fndI
  exact List.find?_eq_none.2 (fun x hx => by simp [h x hx])
theorem fnd_new {id : Int} {os : List Ord} {o : Ord} (h : ∀ x ∈ os, x.id ≠ id) (ho : o.id = id) : fndI id (os ++ [o]) = some o := by
  unfold fndI
  rw [List.find?_append, List.find?_eq_none.2 (fun x hx => by simp [h x hx])]
  simp [ho]
/-- What an order that came leaves. -/
structure Kep (os : List Ord) (e : En) (r : Rs) (os' : List Ord) : Prop where
  unc : Unc os'
  fnd : fndI e.o.id os' = if 0 < r.rest.qty then some r.rest else none
  sum : trd r.fills + r.rest.qty + r.gone = e.o.qty
  rest : 0 ≤ r.rest.qty ∧ r.rest.qty ≤ 4294967296
  gone : 0 ≤ r.gone ∧ r.gone ≤ 4294967296
  one : ¬ (0 < r.gone ∧ 0 < r.rest.qty)
  why : r.why ≠ 0 ↔ 0 < r.gone
  len : os'.length + r.fills.length ≤ os.length + 2
  few : r.fills.length ≤ os.length
  pos : ∀ f ∈ r.fills, 0 ≤ f.qty
  trd : 0 ≤ trd r.fills ∧ trd r.fills ≤ 4294967296
theorem z_le : (0 : Int) ≤ 4294967296 := by decide
theorem keeps_ok {N most : Nat} {os : List Ord} {e : En} (hok : ∀ o ∈ os, okO o) (hn : (os.map (·.id)).Nodup) (hu : Unc os) (hc : checkF N most os e = 0) : Kep os e (enterF N most os e).1 (enterF N most os e).2 := by
  have G := good hc
  have hq1 : ∀ o ∈ os, 1 ≤ o.qty := fun o ho => (hok o ho).2.2.1.1
  have P := G.pok hq1
  have GG := G.goes hq1 hn
  have hpos : ∀ f ∈ (mkP (tkE e) os).1, 0 ≤ f.qty := fun f hm => by have := P.pos f hm; omega
  have h0 := Sw.trd_pos _ hpos
  have hsum := P.sum
  have hleft := P.left
  have hqty := G.qty
  have hnew : ∀ x ∈ (appF (mkP (tkE e) os).1 os).2, x.id ≠ e.o.id := appF_none (fun y hy he => by
    have h1 := Bk.fnd_mem hn hy
    rw [he, G.new] at h1
    cases h1)
  have hcnt := GG.count
  have hfew := mkP_len (tkE e) os
  have htrd : 0 ≤ trd (mkP (tkE e) os).1 ∧ trd (mkP (tkE e) os).1 ≤ 4294967296 := ⟨h0, by omega⟩
  rcases ent_two hc with ⟨hr, h⟩ | ⟨hr, h⟩
  · obtain ⟨h1, h2, h3, h4, h5, h6⟩ := rests_left hr
    have hl1 : 1 ≤ (mkP (tkE e) os).2.1 := by omega
    have hl2 : (mkP (tkE e) os).2.1 ≤ e.o.qty := by omega
    have hside := G.side
    have hsdo : sdO e.o.side (appF (mkP (tkE e) os).1 os).2 = sdO e.o.side os := GG.own (fun o ho hs => by
      have h7 := (List.mem_filter.1 ((Bk.srt_perm _ os).mem_iff.1 ho)).2
      have h8 : o.side = 1 - e.o.side := by simpa using h7
      omega)
    have hlen : (appF (mkP (tkE e) os).1 os).2.length ≤ os.length := by
      cases hfs : (mkP (tkE e) os).1 with
      | nil => simp [appF]
      | cons f fs =>
        rw [hfs] at hcnt
        simp only [List.length_cons] at hcnt
        omega
    have hadd : addF N most (appF (mkP (tkE e) os).1 os).2 (restO e (mkP (tkE e) os).2.1) = 0 := by
      unfold addF
      have g1 : sided (restO e (mkP (tkE e) os).2.1).side = true := decide_eq_true hside
      have g2 : inRng (restO e (mkP (tkE e) os).2.1) = true := decide_eq_true ⟨⟨h3, h4⟩, hl1, by show (mkP (tkE e) os).2.1 ≤ _; omega⟩
      have g3 : fndI (restO e (mkP (tkE e) os).2.1).id (appF (mkP (tkE e) os).1 os).2 = none := fnd_no hnew
      have g4 : roomO N most (restO e (mkP (tkE e) os).2.1).side (restO e (mkP (tkE e) os).2.1).price (appF (mkP (tkE e) os).1 os).2 = true := room_less (G.room hr) hsdo hlen
      rw [g1, g2, g3, g4]
      rfl
    have hos : (enterF N most os e).2 = (appF (mkP (tkE e) os).1 os).2 ++ [restO e (mkP (tkE e) os).2.1] := by
      rw [h]
      show addO _ _ _ _ = _
      unfold addO
      rw [if_pos hadd]
    have hrs : (enterF N most os e).1 = ⟨0, (mkP (tkE e) os).1, restO e (mkP (tkE e) os).2.1, 0, 0⟩ := by rw [h]
    rw [hos, hrs]
    have hrq : (restO e (mkP (tkE e) os).2.1).qty = (mkP (tkE e) os).2.1 := rfl
    refine ⟨?_, ?_, ?_, ?_, ⟨Int.le_refl 0, z_le⟩, fun hh => absurd (show (0 : Int) < 0 from hh.1) (by decide), ⟨fun hh => absurd rfl hh, fun hh => absurd (show (0 : Int) < 0 from hh) (by decide)⟩, ?_, hfew, hpos, htrd⟩
    · have hop := left_open hside GG h6
      intro x hx y hy hx0 hy1
      have hx' := List.mem_append.1 hx
      have hy' := List.mem_append.1 hy
      have hrs : (restO e (mkP (tkE e) os).2.1).side = e.o.side := rfl
      have hrp : (restO e (mkP (tkE e) os).2.1).price = edgeF e := rfl
      rcases hx' with hx' | hx' <;> rcases hy' with hy' | hy'
      · exact unc_app hu x hx' y hy' hx0 hy1
      · have := List.mem_singleton.1 hy'
        subst this
        rw [hrs] at hy1
        have h7 := hop x hx' (by omega)
        unfold bet at h7
        have h8 := of_decide_eq_true h7
        rw [hrp]
        omega
      · have := List.mem_singleton.1 hx'
        subst this
        rw [hrs] at hx0
        have h7 := hop y hy' (by omega)
        unfold bet at h7
        have h8 := of_decide_eq_true h7
        rw [hrp]
        omega
      · have h7 := List.mem_singleton.1 hx'
        have h8 := List.mem_singleton.1 hy'
        rw [h7] at hx0
        rw [h8] at hy1
        omega
    · show _ = if 0 < (mkP (tkE e) os).2.1 then some (restO e (mkP (tkE e) os).2.1) else none
      rw [if_pos (by omega)]
      exact fnd_new hnew rfl
    · show trd (mkP (tkE e) os).1 + (mkP (tkE e) os).2.1 + 0 = _
      omega
    · show 0 ≤ (mkP (tkE e) os).2.1 ∧ (mkP (tkE e) os).2.1 ≤ _
      omega
    · rw [List.length_append]
      show _ + 1 + (mkP (tkE e) os).1.length ≤ _
      omega
  · rw [h]
    refine ⟨unc_app hu, ?_, ?_, ⟨Int.le_refl 0, z_le⟩, ?_, fun hh => absurd (show (0 : Int) < 0 from hh.2) (by decide), ?_, ?_, hfew, hpos, htrd⟩
    · show _ = if (0 : Int) < 0 then _ else none
      rw [if_neg (by decide)]
      exact fnd_no hnew
    · show trd (mkP (tkE e) os).1 + 0 + (mkP (tkE e) os).2.1 = _
      omega
    · show 0 ≤ (mkP (tkE e) os).2.1 ∧ (mkP (tkE e) os).2.1 ≤ _
      omega
    · show whyF e (mkP (tkE e) os) ≠ 0 ↔ 0 < (mkP (tkE e) os).2.1
      unfold whyF
      split
      · constructor
        · intro hh; exact absurd rfl hh
        · intro hh; omega
      · constructor
        · intro _; omega
        · intro _
          split
          · decide
          · split <;> decide
    · show (appF (mkP (tkE e) os).1 os).2.length + (mkP (tkE e) os).1.length ≤ _
      omega
end Ma
end Go.Proofs.Ytgaialcbpglhaaa
namespace Go.Proofs.Ytgaialcbpglhaaa
set_option linter.unusedVariables false
open Go.RowKit
namespace Ma
set_option maxHeartbeats 4000000
set_option maxRecDepth 10000
def FPost (f : Int) (w : World) (e : Ending) (w' : World) : Prop := e = .returned (.int .i64 f) ∧ Below w.heap.size w w'
def QPost (b : Bool) (w : World) (e : Ending) (w' : World) : Prop := e = .returned (.bool b) ∧ Below w.heap.size w w'
theorem callFunc_in {P : Program} {f : FuncId} {fn : Func} {c : Code} (hf : P.funcs[f]? = some fn) (hname : (fn.name == "runtime.NumGoroutine") = false) (hb : fn.body = some c) (args : Array Value) (w : World) : (callFunc f args).run P w = .ok (.enter f args) w := by
  have h1 : fn.name ≠ "runtime.NumGoroutine" := by simpa using hname
  simp [callFunc, hf, h1, hb]
theorem rangeAt_below {w w' : World} {b o : Nat} {l : List Value} (h : w.rangeAt b o l) (hb : Below w.heap.size w w') : w'.rangeAt b o l := fun j v hv => by
  have h1 := h j v hv
  exact (hb.cell (cell_lt h1)).trans h1
theorem mfirst_any (n g : Nat) (K : Nat → Nat) (caps : Nat → Array Value) (q : Nat → Bool) (F : Nat → Int) (hn : n ≤ 100) {w : World} (hc : ∀ k, k < n → w.rangeAt g (k * 2) [.func (.func (K k)) #[] (caps k), .int .i64 (F k)])
    (hq : ∀ k, k < n → ∀ args W, (callFunc (K k) args).run Try.prog W = .ok (.enter (K k) args) W)
    (hk : ∀ k, k < n → (∀ j, j < k → q j = false) → ∀ W, Below w.heap.size w W → Calls Try.prog (K k) (caps k) W (QPost (q k) W)) :
    Calls Try.prog 123 #[.slice (some ⟨g, 0, none⟩) n n] w (FPost (fstQ q F 0 n) w) := by
  replace hc := Lib.hid hc
  replace hk := Lib.hid hk
  replace hq := Lib.hid hq
  go_enter Try.func123, Try.ntmps123
  go_wp2_with fail
  go_loopw [7] (fun i wr => ∃ k : Nat, i = .int .i64 k ∧ k ≤ n ∧ Hid (fstQ q F k (n - k) = fstQ q F 0 n) ∧ Hid (∀ j, j < k → q j = false) ∧ Below w.heap.size w wr) (fun i _ => n - (intOf i).toNat)
  case atStart => exact ⟨0, rfl, Nat.zero_le _, Lib.hid rfl, Lib.hid (fun j hj => absurd hj (Nat.not_lt_zero j)), Below.refl _ _⟩
  case round =>
    obtain ⟨k, rfl, hkn, hF, hz, hb⟩ := hrel
    by_cases hlt : k < n
    · have e1 : (k : Int) < (n : Int) := by omega
      have hmid := rangeAt_below (hc.out k hlt) hb
      have hK := Lib.hid (hk.out k hlt hz.out)
      have hq1 := hq.out k hlt
      have hF2 := hF.out
      rw [show n - k = n - (k + 1) + 1 by omega, fstQ] at hF2
      have hX : Blk (wr.alloc (.cells #[.nilFunc, .int .i64 0] 214)) wr.heap.size 214 #[.nilFunc, .int .i64 0] := Blk.new _ _ _ _ rfl
      clear hF hk hc hq
      have hzn : q k = false → ∀ j, j < k + 1 → q j = false := fun h j hj => by
        rcases Nat.lt_or_ge j k with h1 | h1
        · exact hz.out j h1
        · rw [show j = k by omega]; exact h
      replace hzn := Lib.hid hzn
      generalize q k = qk at *
      generalize F k = fk at *
      generalize K k = kk at *
      generalize caps k = cc at *
      cases qk
      · rw [if_neg (by simp)] at hF2
        have hz2 := Lib.hid (hzn.out rfl)
        clear hzn
        replace hF2 := Lib.hid hF2
        go_wp2_with (first | (refine wpList_load_mid (by rfl) _ _ (by rfl) _ _ (by rfl) _ _ hmid Try.underlying214 rfl (by kernel_rfl) ?_) | (((with_reducible show wpList _ _ _ (⟨_, .store 214 _ _, _, _, _, _⟩ :: _) _ _); refine wpList_store_blk (by rfl) 214 _ _ (by rfl) _ _ (by rfl) (by rfl) _ _ hX (by kernel_rfl) (by rfl) ?_ ?_; (next => first | (simp [Value.oneCell']; done) | (simp [Value.oneCell', Edt.cells]; done) | exact Are.ordArr_one _); intro w3 hX3 hU3); have hb3 : Below wr.heap.size wr w3 := below_upd (by (repeat (first | with_reducible exact Below.refl _ _ | (with_reducible assumption) | (with_reducible refine below_alloc ?_ _) | (with_reducible refine below_ext (w1 := ?_) ?_ ?_; rotate_left 2; (with_reducible assumption)) | (with_reducible refine Below.setCell ?_ ?_ _; rotate_left; ((try simp) <;> omega)) | (with_reducible refine Below.drew ?_) | (with_reducible refine below_drewN ?_ _) | fail))) (Nat.le_refl _) hU3; have x0 : w3.cell? ⟨wr.heap.size, 0, none⟩ = some (.func (.func kk) #[] cc) := Blk.cell hX3 0; have x1 : w3.cell? ⟨wr.heap.size, 1, none⟩ = some (.int .i64 fk) := Blk.cell hX3 1) | ((with_reducible refine (hK.out w3 (below_ext hb hb3)).mono ?_); rintro e w1 ⟨rfl, hb1⟩) | fail)
        go_roundw
        case rel => exact ⟨k + 1, by go_num, by omega, hF2, hz2, below_ext hb (below_ext hb3 hb1)⟩
        case measure => simp [intOf]; omega
      · rw [if_pos rfl] at hF2
        replace hF2 := Lib.hid hF2
        clear hzn
        go_wp2_with (first | (refine wpList_load_mid (by rfl) _ _ (by rfl) _ _ (by rfl) _ _ hmid Try.underlying214 rfl (by kernel_rfl) ?_) | (((with_reducible show wpList _ _ _ (⟨_, .store 214 _ _, _, _, _, _⟩ :: _) _ _); refine wpList_store_blk (by rfl) 214 _ _ (by rfl) _ _ (by rfl) (by rfl) _ _ hX (by kernel_rfl) (by rfl) ?_ ?_; (next => first | (simp [Value.oneCell']; done) | (simp [Value.oneCell', Edt.cells]; done) | exact Are.ordArr_one _); intro w3 hX3 hU3); have hb3 : Below wr.heap.size wr w3 := below_upd (by (repeat (first | with_reducible exact Below.refl _ _ | (with_reducible assumption) | (with_reducible refine below_alloc ?_ _) | (with_reducible refine below_ext (w1 := ?_) ?_ ?_; rotate_left 2; (with_reducible assumption)) | (with_reducible refine Below.setCell ?_ ?_ _; rotate_left; ((try simp) <;> omega)) | (with_reducible refine Below.drew ?_) | (with_reducible refine below_drewN ?_ _) | fail))) (Nat.le_refl _) hU3; have x0 : w3.cell? ⟨wr.heap.size, 0, none⟩ = some (.func (.func kk) #[] cc) := Blk.cell hX3 0) | ((with_reducible refine (hK.out w3 (below_ext hb hb3)).mono ?_); rintro e w1 ⟨rfl, hb1⟩; have x1 : w1.cell? ⟨wr.heap.size, 1, none⟩ = some (.int .i64 fk) := (Blk.ext hX3 hb1).cell 1) | fail)
        go_ret
        exact ⟨by rw [← hF2.out]; rfl, below_ext hb (below_ext hb3 hb1)⟩
    · have hke : k = n := by omega
      subst hke
      rw [Nat.sub_self] at hF
      go_wp2_with fail
      go_ret
      exact ⟨by rw [← hF.out]; rfl, hb⟩
end Ma
end Go.Proofs.Ytgaialcbpglhaaa
namespace Go.Proofs.Ytgaialcbpglhaaa
set_option linter.unusedVariables false
open Go.RowKit
namespace Sho
set_option maxHeartbeats 400000

/-! ### flags -/
theorem and_small (f : Int) (m : Nat) (hm : m < 4) : bits .and .i64 f m = (((BitVec.ofInt 64 f).toNat &&& m : Nat) : Int) := by
  have h : bits .and .i64 f m = (BitVec.ofInt 64 f &&& BitVec.ofInt 64 (m : Int)).toInt := Fix.wrap_toNat _
  rw [h, BitVec.toInt_eq_toNat_of_lt]
  · rw [BitVec.toNat_and]
    have : (BitVec.ofInt 64 (m : Int)).toNat = m := by simp; omega
    rw [this]
  · rw [BitVec.toNat_and]
    have h1 := Nat.and_le_right (n := (BitVec.ofInt 64 f).toNat) (m := (BitVec.ofInt 64 (m : Int)).toNat)
    have : (BitVec.ofInt 64 (m : Int)).toNat = m := by simp; omega
    omega
def low (f : Int) : Int := (((BitVec.ofInt 64 f).toNat % 4 : Nat) : Int)
theorem low_lt (f : Int) : 0 ≤ low f ∧ low f < 4 := by unfold low; omega
theorem and1 (f : Int) : bits .and .i64 f 1 = low f % 2 := by
  have := and_small f 1 (by decide)
  rw [show ((1 : Nat) : Int) = 1 from rfl] at this
  rw [this, Nat.and_one_is_mod]
  unfold low
  omega
theorem nat_and2 (n : Nat) : n &&& 2 = n / 2 % 2 * 2 := by
  have h1 : (n &&& 2) / 2 = n / 2 % 2 := by rw [Nat.and_div_two, ← Nat.and_one_is_mod]
  have h2 : (n &&& 2) % 2 = 0 := by
    have := Nat.and_mod_two_pow (a := n) (b := 2) (n := 1)
    simpa using this
  omega
theorem and2 (f : Int) : bits .and .i64 f 2 = low f / 2 * 2 := by
  have := and_small f 2 (by decide)
  rw [show ((2 : Nat) : Int) = 2 from rfl] at this
  rw [this, nat_and2]
  unfold low
  omega
theorem and3 (f : Int) : bits .and .i64 f 3 = low f := by
  have := and_small f 3 (by decide)
  rw [show ((3 : Nat) : Int) = 3 from rfl] at this
  rw [this]
  have h := Nat.and_two_pow_sub_one_eq_mod (BitVec.ofInt 64 f).toNat 2
  rw [show (2 : Nat) ^ 2 - 1 = 3 from rfl] at h
  rw [h]
  rfl

def coversF (o : Ord) : Bool := decide (o.side = 1) && decide (low o.flags = 1)

theorem covers_any (o : Ord) (w : World) :
    Calls Try.prog 62 #[.agg o.arr] w fun e w' => e = .returned (.bool (coversF o)) ∧ Below w.heap.size w w' := by
  have H3 := and3 o.flags
  by_cases h1 : o.side = 1
  · have k1 : (o.side == 1) = true := by simp [h1]
    have HC := Lib.hid h1
    clear h1
    go_enter Try.func62, Try.ntmps62
    go_wp2
    go_ret
    refine ⟨ret_bool ?_, by (repeat (first | with_reducible exact Below.refl _ _ | (with_reducible assumption) | (with_reducible refine below_alloc ?_ _) | (with_reducible refine below_ext (w1 := ?_) ?_ ?_; rotate_left 2; (with_reducible assumption)) | (with_reducible refine Below.setCell ?_ ?_ _; rotate_left; ((try simp) <;> omega)) | (with_reducible refine Below.drew ?_) | (with_reducible refine below_drewN ?_ _) | fail))⟩
    rw [coversF, HC.out, Bool.eq_iff_iff]
    simp
  · have k1 : (o.side == 1) = false := by simp [h1]
    have HC := Lib.hid h1
    clear h1
    go_enter Try.func62, Try.ntmps62
    go_wp2
    go_ret
    exact ⟨ret_bool (by simp [coversF, HC.out]), by (repeat (first | with_reducible exact Below.refl _ _ | (with_reducible assumption) | (with_reducible refine below_alloc ?_ _) | (with_reducible refine below_ext (w1 := ?_) ?_ ?_; rotate_left 2; (with_reducible assumption)) | (with_reducible refine Below.setCell ?_ ?_ _; rotate_left; ((try simp) <;> omega)) | (with_reducible refine Below.drew ?_) | (with_reducible refine below_drewN ?_ _) | fail))⟩


def mayF (b : Bool) (s : Int) (o : Ord) : Bool := !b || !coversF o || decide (s < o.price)

theorem may_any (b : Bool) (s : Int) (o : Ord) (w : World) :
    Calls Try.prog 18 #[.agg #[.bool b, .int .i64 s], .agg o.arr] w fun e w' => e = .returned (.bool (mayF b s o)) ∧ Below w.heap.size w w' := by
  cases b
  · go_enter Try.func18, Try.ntmps18
    go_wp2_with fail
    go_ret
    exact ⟨rfl, by (repeat (first | with_reducible exact Below.refl _ _ | (with_reducible assumption) | (with_reducible refine below_alloc ?_ _) | (with_reducible refine below_ext (w1 := ?_) ?_ ?_; rotate_left 2; (with_reducible assumption)) | (with_reducible refine Below.setCell ?_ ?_ _; rotate_left; ((try simp) <;> omega)) | (with_reducible refine Below.drew ?_) | (with_reducible refine below_drewN ?_ _) | fail))⟩
  · cases hc : coversF o
    all_goals
      have HC := Lib.hid hc
      clear hc
      go_enter Try.func18, Try.ntmps18
      go_wp2_with (first | ((with_reducible show wpList _ _ _ (⟨_, .load 43 _, _, _, _, _⟩ :: _) _ _); refine wpList_load_ho 43 _ (by rfl) (by rfl) ?_ (.pointer (some ⟨_, 0, none⟩)) (by rfl) ?_ _ Try.underlying43 rfl ?_ ?_; rotate_left; (next => (repeat (first | (with_reducible refine BlkAt.new _ _ _ _ ?_; ((try simp) <;> omega)) | (with_reducible assumption) | (with_reducible refine Blk.at (t := ?_) ?_; rotate_left; with_reducible assumption) | with_reducible refine BlkAt.alloc ?_ _ | with_reducible refine BlkAt.drew ?_ | (with_reducible refine BlkAt.setSame ?_ _ _) | (with_reducible refine BlkAt.setCell ?_ ?_ _; rotate_left; ((try simp) <;> omega)) | (with_reducible refine BlkAt.ext (w := ?_) ?_ ?_; rotate_left 2; (with_reducible assumption)) | fail))); (next => kernel_rfl)) | (go_at_call 62; refine (covers_any _ _).mono ?_; rintro e w1 ⟨rfl, hb1⟩; (have hcb1 := fun (b o : Nat) (h : b < _) => hb1.cell (p := ⟨b, o, none⟩) h); rw [HC.out]) | fail)
      go_ret
      exact ⟨ret_bool (by simp [mayF, HC.out]), by (repeat (first | with_reducible exact Below.refl _ _ | (with_reducible assumption) | (with_reducible refine below_alloc ?_ _) | (with_reducible refine below_ext (w1 := ?_) ?_ ?_; rotate_left 2; (with_reducible assumption)) | (with_reducible refine Below.setCell ?_ ?_ _; rotate_left; ((try simp) <;> omega)) | (with_reducible refine Below.drew ?_) | (with_reducible refine below_drewN ?_ _) | fail))⟩



/-! ### Least -/
def leastF (b : Bool) (s g : Int) : Int × Bool :=
  if b = false ∨ s < 0 ∨ 1099511627776 ≤ s ∨ g < 1 ∨ 1099511627776 < g then (0, false)
  else if 1099511627776 < s - s % g + g then (0, false) else (s - s % g + g, true)

theorem up_least {s g : Int} (hs : 0 ≤ s) (hg : 1 ≤ g) : Fix.upF (s + 1) g = (s - s % g + g, true) := by
  have h1 := Int.emod_add_mul_ediv s g
  have h2 := Int.emod_nonneg s (show g ≠ 0 by omega)
  have h3 := Int.emod_lt_of_pos s (show 0 < g by omega)
  have h4 := Int.emod_add_mul_ediv (s + 1) g
  have h5 : (s + 1) / g * g = g * ((s + 1) / g) := Int.mul_comm ..
  have h6 : (s + 1) % g = (s % g + 1) % g := by
    have : s + 1 = (s % g + 1) + g * (s / g) := by omega
    rw [this, Int.add_mul_emod_self_left]
  unfold Fix.upF
  rw [if_neg (by omega)]
  by_cases h7 : s % g + 1 = g
  · have h8 : (s + 1) % g = 0 := by rw [h6, h7, Int.emod_self]
    rw [if_pos (by omega)]
    rw [show s + 1 = s - s % g + g by omega]
  · have h8 : (s + 1) % g = s % g + 1 := by rw [h6, Int.emod_eq_of_lt (by omega) (by omega)]
    rw [if_neg (by omega)]
    rw [show (s + 1) / g * g + g = s - s % g + g by omega]


theorem alive_any (w : World) : Calls Try.prog 21 #[] w fun e w' => e = .returned (.bool true) ∧ Below w.heap.size w w' := by
  go_enter Try.func21, Try.ntmps21
  go_wp2_with (first | ((with_reducible show wpList _ _ _ (⟨_, .load 43 _, _, _, _, _⟩ :: _) _ _); refine wpList_load_ho 43 _ (by rfl) (by rfl) ?_ (.pointer (some ⟨_, 0, none⟩)) (by rfl) ?_ _ Try.underlying43 rfl ?_ ?_; rotate_left; (next => (repeat (first | (with_reducible refine BlkAt.new _ _ _ _ ?_; ((try simp) <;> omega)) | (with_reducible assumption) | (with_reducible refine Blk.at (t := ?_) ?_; rotate_left; with_reducible assumption) | with_reducible refine BlkAt.alloc ?_ _ | with_reducible refine BlkAt.drew ?_ | (with_reducible refine BlkAt.setSame ?_ _ _) | (with_reducible refine BlkAt.setCell ?_ ?_ _; rotate_left; ((try simp) <;> omega)) | (with_reducible refine BlkAt.ext (w := ?_) ?_ ?_; rotate_left 2; (with_reducible assumption)) | fail))); (next => kernel_rfl)) | ((with_reducible show wpList _ _ _ (⟨_, .load 40 _, _, _, _, _⟩ :: _) _ _); refine wpList_load_ho 40 _ (by rfl) (by rfl) ?_ (.pointer (some ⟨_, 0, none⟩)) (by rfl) ?_ _ Try.underlying40 rfl ?_ ?_; rotate_left; (next => (repeat (first | (with_reducible refine BlkAt.new _ _ _ _ ?_; ((try simp) <;> omega)) | (with_reducible assumption) | (with_reducible refine Blk.at (t := ?_) ?_; rotate_left; with_reducible assumption) | with_reducible refine BlkAt.alloc ?_ _ | with_reducible refine BlkAt.drew ?_ | (with_reducible refine BlkAt.setSame ?_ _ _) | (with_reducible refine BlkAt.setCell ?_ ?_ _; rotate_left; ((try simp) <;> omega)) | (with_reducible refine BlkAt.ext (w := ?_) ?_ ?_; rotate_left 2; (with_reducible assumption)) | fail))); (next => kernel_rfl)) | fail)
  refine (may_any true 100 ⟨0, 0, 1, 100, 0, 1, 0⟩ _).mono ?_
  rintro e w1 ⟨he, hb1⟩
  have he' : e = .returned (.bool false) := he.trans (ret_bool (by decide +kernel))
  clear he
  subst he'
  (have hcb1 := fun (b o : Nat) (h : b < _) => hb1.cell (p := ⟨b, o, none⟩) h); (have hfb1 := fun (b o : Nat) (h : b < _) => hb1.frozen (p := ⟨b, o, none⟩) h)
  go_wp2_with (first | ((with_reducible show wpList _ _ _ (⟨_, .load 43 _, _, _, _, _⟩ :: _) _ _); refine wpList_load_ho 43 _ (by rfl) (by rfl) ?_ (.pointer (some ⟨_, 0, none⟩)) (by rfl) ?_ _ Try.underlying43 rfl ?_ ?_; rotate_left; (next => (repeat (first | (with_reducible refine BlkAt.new _ _ _ _ ?_; ((try simp) <;> omega)) | (with_reducible assumption) | (with_reducible refine Blk.at (t := ?_) ?_; rotate_left; with_reducible assumption) | with_reducible refine BlkAt.alloc ?_ _ | with_reducible refine BlkAt.drew ?_ | (with_reducible refine BlkAt.setSame ?_ _ _) | (with_reducible refine BlkAt.setCell ?_ ?_ _; rotate_left; ((try simp) <;> omega)) | (with_reducible refine BlkAt.ext (w := ?_) ?_ ?_; rotate_left 2; (with_reducible assumption)) | fail))); (next => kernel_rfl)) | ((with_reducible show wpList _ _ _ (⟨_, .load 40 _, _, _, _, _⟩ :: _) _ _); refine wpList_load_ho 40 _ (by rfl) (by rfl) ?_ (.pointer (some ⟨_, 0, none⟩)) (by rfl) ?_ _ Try.underlying40 rfl ?_ ?_; rotate_left; (next => (repeat (first | (with_reducible refine BlkAt.new _ _ _ _ ?_; ((try simp) <;> omega)) | (with_reducible assumption) | (with_reducible refine Blk.at (t := ?_) ?_; rotate_left; with_reducible assumption) | with_reducible refine BlkAt.alloc ?_ _ | with_reducible refine BlkAt.drew ?_ | (with_reducible refine BlkAt.setSame ?_ _ _) | (with_reducible refine BlkAt.setCell ?_ ?_ _; rotate_left; ((try simp) <;> omega)) | (with_reducible refine BlkAt.ext (w := ?_) ?_ ?_; rotate_left 2; (with_reducible assumption)) | fail))); (next => kernel_rfl)) | fail)
  refine (may_any true 100 ⟨0, 0, 1, 101, 0, 1, 0⟩ _).mono ?_
  rintro e w2 ⟨he, hb2⟩
  have he' : e = .returned (.bool true) := he.trans (ret_bool (by decide +kernel))
  clear he
  subst he'
  have hO := (BlkAt.setSame (BlkAt.ext (BlkAt.new _ _ _ _ (by simp)) hb1) 3 (.int .i64 101)).ext hb2
  go_wp2_with (first | ((with_reducible show wpList _ _ _ (⟨_, .load 43 _, _, _, _, _⟩ :: _) _ _); refine wpList_load_ho 43 _ (by rfl) (by rfl) ?_ (.pointer (some ⟨_, 0, none⟩)) (by rfl) ?_ _ Try.underlying43 rfl ?_ ?_; rotate_left; (next => (repeat (first | (with_reducible refine BlkAt.new _ _ _ _ ?_; ((try simp) <;> omega)) | (with_reducible assumption) | (with_reducible refine Blk.at (t := ?_) ?_; rotate_left; with_reducible assumption) | with_reducible refine BlkAt.alloc ?_ _ | with_reducible refine BlkAt.drew ?_ | (with_reducible refine BlkAt.setSame ?_ _ _) | (with_reducible refine BlkAt.setCell ?_ ?_ _; rotate_left; ((try simp) <;> omega)) | (with_reducible refine BlkAt.ext (w := ?_) ?_ ?_; rotate_left 2; (with_reducible assumption)) | fail))); (next => kernel_rfl)) | ((with_reducible show wpList _ _ _ (⟨_, .load 40 _, _, _, _, _⟩ :: _) _ _); refine wpList_load_ho 40 _ (by rfl) (by rfl) ?_ (.pointer (some ⟨_, 0, none⟩)) (by rfl) ?_ _ Try.underlying40 rfl ?_ ?_; rotate_left; (next => (repeat (first | (with_reducible refine BlkAt.new _ _ _ _ ?_; ((try simp) <;> omega)) | (with_reducible assumption) | (with_reducible refine Blk.at (t := ?_) ?_; rotate_left; with_reducible assumption) | with_reducible refine BlkAt.alloc ?_ _ | with_reducible refine BlkAt.drew ?_ | (with_reducible refine BlkAt.setSame ?_ _ _) | (with_reducible refine BlkAt.setCell ?_ ?_ _; rotate_left; ((try simp) <;> omega)) | (with_reducible refine BlkAt.ext (w := ?_) ?_ ?_; rotate_left 2; (with_reducible assumption)) | fail))); (next => kernel_rfl)) | fail)
  refine (covers_any ⟨0, 0, 1, 101, 0, 1, 0⟩ _).mono ?_
  rintro e w3 ⟨he, hb3⟩
  have he' : e = .returned (.bool true) := he.trans (ret_bool (by decide +kernel))
  clear he
  subst he'
  go_wp2_with fail
  go_ret
  exact ⟨rfl, by (repeat (first | with_reducible exact Below.refl _ _ | (with_reducible assumption) | (with_reducible refine below_alloc ?_ _) | (with_reducible refine below_ext (w1 := ?_) ?_ ?_; rotate_left 2; (with_reducible assumption)) | (with_reducible refine Below.setCell ?_ ?_ _; rotate_left; ((try simp) <;> omega)) | (with_reducible refine Below.drew ?_) | (with_reducible refine below_drewN ?_ _) | fail))⟩


/-! ### Trips -/
def pricedF (p : Int) : Bool := decide (1 ≤ p) && decide (p ≤ 1099511627776)


def priceF (p : Int) : Int := if pricedF p then 0 else 9
theorem price_any (p : Int) (w : World) (hp : I64 p) :
    Calls Try.prog 46 #[.int .i64 p, .int .i64 1] w fun e w' => e = .returned (.int .i64 (priceF p)) ∧ w = w' := by
  have kp := hp
  obtain ⟨p1, p2⟩ := hp
  by_cases h1 : p < 1
  · have HF : Hid (priceF p = 9) := by
      have : pricedF p = false := by simp [pricedF]; omega
      show priceF p = 9
      simp [priceF, this]
    go_enter Try.func46, Try.ntmps46
    go_wp2_with fail
    go_ret
    exact ⟨by rw [HF.out]; rfl, rfl⟩
  · by_cases h2 : 1099511627776 < p
    · have HF : Hid (priceF p = 9) := by
        have : pricedF p = false := by simp [pricedF]; omega
        show priceF p = 9
        simp [priceF, this]
      go_enter Try.func46, Try.ntmps46
      go_wp2_with fail
      go_ret
      exact ⟨by rw [HF.out]; rfl, rfl⟩
    · have HF : Hid (priceF p = 0) := by
        have : pricedF p = true := by simp [pricedF]; omega
        show priceF p = 0
        simp [priceF, this]
      have HD : Hid (Fix.downF p 1 = p) := by show Fix.downF p 1 = p; unfold Fix.downF; rw [if_neg (by omega)]; simp
      go_enter Try.func46, Try.ntmps46
      go_wp2_with (first | go_at_call 96; refine (Fix.down_any _ _ _ kp ⟨by decide, by decide⟩).mono ?_; rintro e w' ⟨rfl, rfl⟩; rw [HD.out] | fail)
      go_ret
      exact ⟨by rw [HF.out]; rfl, rfl⟩


def tripsF (s f p : Int) : Bool := decide (1 ≤ s) && decide (s ≤ 9999) && pricedF f && pricedF p && decide (p * 10000 ≤ f * (10000 - s))

theorem mul_small {f s : Int} (h1 : 1 ≤ f) (h2 : f ≤ 1099511627776) (h3 : 1 ≤ s) (h4 : s ≤ 9999) : 0 ≤ f * (10000 - s) ∧ f * (10000 - s) ≤ 10995116277760000 := by
  constructor
  · exact Int.mul_nonneg (by omega) (by omega)
  · have := Int.mul_le_mul (a := f) (b := 10000 - s) (c := 1099511627776) (d := 10000) h2 (by omega) (by omega) (by omega)
    omega


end Sho
end Go.Proofs.Ytgaialcbpglhaaa
namespace Go.Proofs.Ytgaialcbpglhaaa
set_option linter.unusedVariables false
open Go.RowKit
section
variable {P : Program} {md : Region.Mode} {S C : World → Prop} {n : Nat} {Q' : Exit → Act → World → Prop}
theorem wpAnyT_of_quiet {ops : Array Oper} {Q : Act → Prop} (hCS : ∀ w, C w → S w) (hQ : ∀ a w, C w → Q a → Q' .normal a w) : ∀ (fuel : Nat) (listed : Array Bool) (a : Act) (w : World), C w →
    wpAnyQ P md ops C Q fuel listed a → wpAnyT P md ops Q' S n fuel listed a w
  | 0, _, _, _, hw, h => ⟨h.1, hQ _ _ hw h.2⟩
  | fuel + 1, _, _, _, hw, h => ⟨fun h0 => hQ _ _ hw (h.1 h0), fun i hi => wpOp_of_qOp hw (fun a' w' hw' h' => ⟨.inr (hCS _ hw'), wpAnyT_of_quiet hCS hQ fuel _ a' w' hw' h'⟩) (h.2 i hi)⟩
/-- Behind the call: quiet operations in the order of the text. -/
theorem T_rest {l : List Oper} (k : Nat) {fuel : Nat} {listed : Array Bool} {a : Act} {w2 : World} (hf : fuel = (l.drop k).length) (hB : (Region.noSelect l.toArray && Region.lexFrom md l.toArray (l.drop k).length k listed) = true) (hCS : ∀ W, Below w2.heap.size w2 W → S W)
    (h : wpQuiet P l.toArray (fun W => Ext w2 W) (fun a' => ∀ w3, Below w2.heap.size w2 w3 → Q' .normal a' w3) (l.drop k) a) : wpAnyT P md l.toArray Q' S n fuel listed a w2 := by
  subst hf
  simp only [Bool.and_eq_true] at hB
  refine wpAnyT_of_quiet (C := fun W => Ext w2 W) (Q := fun a' => ∀ w3, Below w2.heap.size w2 w3 → Q' .normal a' w3) (fun W hW => hCS W hW.out) (fun a' w3 hw3 h3 => h3 w3 hw3.out) _ _ _ _ (show Ext w2 w2 from Below.refl _ _) ?_
  exact wpAnyQ_lex hB.1 (l.drop k) k _ _ (fun j => by simp [List.getElem?_drop]) hB.2 h
theorem y_load_blk {ops : Array Oper} {o : Oper} {a : Act} (ty : TypeId) (x : Operand) (ho : o.op = .load ty x) (hw : Region.wanted o (yielded ops a.tmps) = true) (g : Nat) (hx : a.eval x = .pointer (some ⟨g, 0, none⟩)) (t : TypeId) (cs : Array Value) (d : TypeDesc)
    (hb : ∀ w, S w → Blk w g t cs) (hu : P.underlying ty = some d) (hd : (match d with | .struct _ | .array _ _ => true | _ => false) = true) (hi : (P.info? ty).map (·.size) = some cs.size) : YieldsIf P ops S o (.agg cs) a :=
  .inl ⟨hw, fun w hS => by
    unfold execOp
    simp only [ho, hx, Instr.loadAt, Instr.sureAddr, Sem.run_bind, Sem.run_pure, Result.andThen_ok, run_loadVar_row w g t ty cs _ d (hb w hS) hu hd hi]⟩
theorem wp_enterE {ops : Array Oper} {o : Oper} {a : Act} {w : World} {Q : Exit → Act → World → Prop} {K : Act → World → Prop} {F : FuncId} {args : Array Value} (hx : (execOp a.eval o).run P w = .ok (.enter F args) w)
    (h : Calls P F args w fun e w' => ∃ v, e = .returned v ∧ K (a.put o.dst v) w') : o.wp P a w K Q := by
  unfold Oper.wp
  rw [hx, Oper.upon_enter]
  refine h.mono ?_
  rintro e w' ⟨v, rfl, hk⟩
  exact hk
end
end Go.Proofs.Ytgaialcbpglhaaa
namespace Go.Proofs.Ytgaialcbpglhaaa
set_option linter.unusedVariables false
open Go.RowKit
namespace Ma
set_option maxHeartbeats 4000000
set_option maxRecDepth 10000
open Bk (bet Bs osOf srt Sl fndI roomO)
open Sw (Tk Fl mk mkP MkPost rchO)
def qtyN (q : Int) : Int := if 1 ≤ q ∧ q ≤ 4294967296 then 0 else 9
theorem fqty_any (q : Int) (w : World) : Calls Try.prog 101 #[.int .i64 q] w fun x w' => x = .returned (.int .i64 (qtyN q)) ∧ Below w.heap.size w w' := by
  have hmf : ∀ (fn : Fn) (first cap : Array Value) (W : World), (Instr.makeFunc fn first cap).run Try.prog W = .ok (.func fn first cap) W := fun _ _ _ _ => rfl
  go_enter Try.func101, Try.ntmps101
  go_wp2_with go_in
  all_goals go_ret
  all_goals refine ⟨ret_int ?_, by (repeat (first | with_reducible exact Below.refl _ _ | (with_reducible assumption) | (with_reducible refine below_alloc ?_ _) | (with_reducible refine below_ext (w1 := ?_) ?_ ?_; rotate_left 2; (with_reducible assumption)) | (with_reducible refine Below.setCell ?_ ?_ _; rotate_left; ((try simp) <;> omega)) | (with_reducible refine Below.drew ?_) | (with_reducible refine below_drewN ?_ _) | fail))⟩
  all_goals (simp_all [qtyN] <;> omega)
theorem ranged_any (e : En) (hp : I64 e.o.price) (w : World) : Calls Try.prog 126 #[.agg e.arr] w fun x w' => x = .returned (.bool (rangedF e)) ∧ Below w.heap.size w w' := by
  have HP := Lib.hid (fun W => Sho.price_any e.o.price W hp)
  by_cases h : e.typ = 2
  · have k : (e.typ == 2) = true := by simp [h]
    have HL : Hid (rangedF e = (e.o.price != 0)) := Lib.hid (by unfold rangedF; rw [if_pos h]; by_cases h0 : e.o.price = 0 <;> simp [h0])
    clear h
    go_enter Try.func126, Try.ntmps126
    go_wp2_with fail
    go_ret
    exact ⟨by rw [HL.out]; rfl, by (repeat (first | with_reducible exact Below.refl _ _ | (with_reducible assumption) | (with_reducible refine below_alloc ?_ _) | (with_reducible refine below_ext (w1 := ?_) ?_ ?_; rotate_left 2; (with_reducible assumption)) | (with_reducible refine Below.setCell ?_ ?_ _; rotate_left; ((try simp) <;> omega)) | (with_reducible refine Below.drew ?_) | (with_reducible refine below_drewN ?_ _) | fail))⟩
  · have k : (e.typ == 2) = false := by simp [h]
    have HL : Hid (rangedF e = (Sho.priceF e.o.price != 0)) := Lib.hid (by
      unfold rangedF Sho.priceF Sho.pricedF
      rw [if_neg h]
      by_cases h1 : 1 ≤ e.o.price <;> by_cases h2 : e.o.price ≤ 1099511627776 <;> simp [h1, h2])
    clear h
    generalize Sho.priceF e.o.price = z at *
    go_enter Try.func126, Try.ntmps126
    go_wp2_with (first | (go_at_call 46; refine (HP.out _).mono ?_; rintro x w2 ⟨rfl, rfl⟩) | fail)
    go_ret
    exact ⟨by rw [HL.out]; rfl, by (repeat (first | with_reducible exact Below.refl _ _ | (with_reducible assumption) | (with_reducible refine below_alloc ?_ _) | (with_reducible refine below_ext (w1 := ?_) ?_ ?_; rotate_left 2; (with_reducible assumption)) | (with_reducible refine Below.setCell ?_ ?_ _; rotate_left; ((try simp) <;> omega)) | (with_reducible refine Below.drew ?_) | (with_reducible refine below_drewN ?_ _) | fail))⟩
section
variable {w : World} {c : Nat → Nat} {b N most k : Nat} {ss : List Sl} {e : En} {bb bo be : Nat}
theorem c1_any {p : Addr} (hB : Blk w bb 24 #[.pointer (some p)]) (hO : Blk w bo 43 e.o.arr) (hE : Blk w be 80 e.arr) :
    Calls Try.prog 124 #[.pointer (some ⟨bb, 0, none⟩), .pointer (some ⟨bo, 0, none⟩), .pointer (some ⟨be, 0, none⟩)] w (QPost (decide ((e.o.side ≠ 0 ∧ e.o.side ≠ 1) ∨ e.typ < 1 ∨ 5 < e.typ)) w) := by
  have b0 : w.cell? ⟨bb, 0, none⟩ = some (.pointer (some p)) := hB.cell 0
  have o2 : w.cell? ⟨bo, 2, none⟩ = some (.int .i64 e.o.side) := hO.cell 2
  have e7 : w.cell? ⟨be, 7, none⟩ = some (.int .i64 e.typ) := hE.cell 7
  clear hB hO hE
  generalize e.o.side = s at *
  generalize e.typ = t at *
  go_enter Try.func124, Try.ntmps124
  go_wp2_with fail
  all_goals go_ret
  all_goals refine ⟨ret_bool ?_, Below.refl _ _⟩
  all_goals (rw [Bool.eq_iff_iff])
  all_goals (simp_all <;> omega)
theorem c2_any (hO : Blk w bo 43 e.o.arr) (hE : Blk w be 80 e.arr) (hp : I64 e.o.price) :
    Calls Try.prog 125 #[.pointer (some ⟨bo, 0, none⟩), .pointer (some ⟨be, 0, none⟩)] w (QPost (decide (¬ (1 ≤ e.o.qty ∧ e.o.qty ≤ 4294967296)) || rangedF e) w) := by
  have o4 : w.cell? ⟨bo, 4, none⟩ = some (.int .i64 e.o.qty) := hO.cell 4
  have HQ := Lib.hid (fun W => fqty_any e.o.qty W)
  have HR := Lib.hid (fun W => ranged_any e hp W)
  generalize rangedF e = z at *
  by_cases hq : 1 ≤ e.o.qty ∧ e.o.qty ≤ 4294967296
  · have HF : Hid ((decide (¬ (1 ≤ e.o.qty ∧ e.o.qty ≤ 4294967296)) || z) = z) := Lib.hid (by simp [hq])
    have hn : qtyN e.o.qty = 0 := by unfold qtyN; rw [if_pos hq]
    rw [hn] at HQ
    clear hn hq hO
    generalize e.o.qty = q at *
    go_enter Try.func125, Try.ntmps125
    go_wp2_with (first | ((with_reducible show wpList _ _ _ (⟨_, .load 80 _, _, _, _, _⟩ :: _) _ _); refine wpList_load_ho 80 _ (by rfl) (by rfl) ?_ (.pointer (some ⟨_, 0, none⟩)) (by rfl) ?_ _ Try.underlying80 rfl ?_ ?_; rotate_left; (next => (repeat (first | (with_reducible refine BlkAt.new _ _ _ _ ?_; ((try simp) <;> omega)) | (with_reducible assumption) | (with_reducible refine Blk.at (t := ?_) ?_; rotate_left; with_reducible assumption) | with_reducible refine BlkAt.alloc ?_ _ | with_reducible refine BlkAt.drew ?_ | (with_reducible refine BlkAt.setSame ?_ _ _) | (with_reducible refine BlkAt.setCell ?_ ?_ _; rotate_left; ((try simp) <;> omega)) | (with_reducible refine BlkAt.ext (w := ?_) ?_ ?_; rotate_left 2; (with_reducible assumption)) | fail))); (next => kernel_rfl)) | (go_at_call 101; refine (HQ.out _).mono ?_; rintro x w2 ⟨rfl, hb2⟩; have hE2 := hE.ext hb2) | (go_at_call 126; refine (HR.out _).mono ?_; rintro x w3 ⟨rfl, hb3⟩) | fail)
    go_ret
    exact ⟨by rw [HF.out]; rfl, below_ext hb2 hb3⟩
  · have HF : Hid ((decide (¬ (1 ≤ e.o.qty ∧ e.o.qty ≤ 4294967296)) || z) = true) := Lib.hid (by rw [decide_eq_true hq]; rfl)
    have hn : qtyN e.o.qty = 9 := by unfold qtyN; rw [if_neg hq]
    rw [hn] at HQ
    clear hn hq hO
    generalize e.o.qty = q at *
    go_enter Try.func125, Try.ntmps125
    go_wp2_with (first | ((with_reducible show wpList _ _ _ (⟨_, .load 80 _, _, _, _, _⟩ :: _) _ _); refine wpList_load_ho 80 _ (by rfl) (by rfl) ?_ (.pointer (some ⟨_, 0, none⟩)) (by rfl) ?_ _ Try.underlying80 rfl ?_ ?_; rotate_left; (next => (repeat (first | (with_reducible refine BlkAt.new _ _ _ _ ?_; ((try simp) <;> omega)) | (with_reducible assumption) | (with_reducible refine Blk.at (t := ?_) ?_; rotate_left; with_reducible assumption) | with_reducible refine BlkAt.alloc ?_ _ | with_reducible refine BlkAt.drew ?_ | (with_reducible refine BlkAt.setSame ?_ _ _) | (with_reducible refine BlkAt.setCell ?_ ?_ _; rotate_left; ((try simp) <;> omega)) | (with_reducible refine BlkAt.ext (w := ?_) ?_ ?_; rotate_left 2; (with_reducible assumption)) | fail))); (next => kernel_rfl)) | (go_at_call 101; refine (HQ.out _).mono ?_; rintro x w2 ⟨rfl, hb2⟩) | fail)
    go_ret
    exact ⟨by rw [HF.out]; rfl, hb2⟩
theorem c3_any (S : Bs w c b N most k ss) (hB : Blk w bb 24 #[.pointer (some ⟨b, 0, none⟩)]) (hO : Blk w bo 43 e.o.arr) (hid : Idx.Wf e.o.id) :
    Calls Try.prog 127 #[.pointer (some ⟨bb, 0, none⟩), .pointer (some ⟨bo, 0, none⟩)] w (QPost (fndI e.o.id (osOf ss)).isSome w) := by
  have b0 : w.cell? ⟨bb, 0, none⟩ = some (.pointer (some ⟨b, 0, none⟩)) := hB.cell 0
  have o0 : w.cell? ⟨bo, 0, none⟩ = some (.int .i64 e.o.id) := hO.cell 0
  have HG := Lib.hid (fun W (hW : Below w.heap.size w W) => Bk.bget_any (S.ext hW) hid)
  generalize (fndI e.o.id (osOf ss)).isSome = z at *
  generalize (fndI e.o.id (osOf ss)).getD Are.ord0 = o at *
  clear hB hO S hid
  generalize e.o.id = id at *
  go_enter Try.func127, Try.ntmps127
  go_wp2_with (first | (go_at_call 24; refine (HG.out _ (Below.refl _ _)).mono ?_; rintro x w2 ⟨rfl, hb2⟩; have hX2 := Blk.new w2 43 Are.ord0.arr _ rfl) | ((with_reducible show wpList _ _ _ (⟨_, .store 43 _ _, _, _, _, _⟩ :: _) _ _); refine wpList_store_blk (by rfl) 43 _ _ (by rfl) _ _ (by rfl) (by rfl) _ _ hX2 (by kernel_rfl) (by rfl) ?_ ?_; (next => first | (simp [Value.oneCell']; done) | (simp [Value.oneCell']; done) | exact Are.ordArr_one _); intro w3 hX3 hU3) | fail)
  go_ret
  exact ⟨rfl, below_ext hb2 (below_upd (by (repeat (first | with_reducible exact Below.refl _ _ | (with_reducible assumption) | (with_reducible refine below_alloc ?_ _) | (with_reducible refine below_ext (w1 := ?_) ?_ ?_; rotate_left 2; (with_reducible assumption)) | (with_reducible refine Below.setCell ?_ ?_ _; rotate_left; ((try simp) <;> omega)) | (with_reducible refine Below.drew ?_) | (with_reducible refine below_drewN ?_ _) | fail))) (Nat.le_refl _) hU3)⟩
theorem c4_any (S : Bs w c b N most k ss) (hB : Blk w bb 24 #[.pointer (some ⟨b, 0, none⟩)]) (hO : Blk w bo 43 e.o.arr) (hE : Blk w be 80 e.arr) :
    Calls Try.prog 128 #[.pointer (some ⟨be, 0, none⟩), .pointer (some ⟨bb, 0, none⟩), .pointer (some ⟨bo, 0, none⟩)] w (QPost (decide (e.typ = 5) && rchO e.o.side e.o.price (osOf ss)) w) := by
  have b0 : w.cell? ⟨bb, 0, none⟩ = some (.pointer (some ⟨b, 0, none⟩)) := hB.cell 0
  have o2 : w.cell? ⟨bo, 2, none⟩ = some (.int .i64 e.o.side) := hO.cell 2
  have o3 : w.cell? ⟨bo, 3, none⟩ = some (.int .i64 e.o.price) := hO.cell 3
  have e7 : w.cell? ⟨be, 7, none⟩ = some (.int .i64 e.typ) := hE.cell 7
  have HR := Lib.hid (Sw.reaches_any S e.o.side e.o.price)
  generalize rchO e.o.side e.o.price (osOf ss) = z at *
  clear hB hO hE S
  generalize e.o.side = s at *
  generalize e.o.price = p at *
  generalize e.typ = t at *
  by_cases ht : t = 5
  · have k5 : (t == 5) = true := by simp [ht]
    rw [decide_eq_true ht, Bool.true_and]
    clear ht
    go_enter Try.func128, Try.ntmps128
    go_wp2_with (first | (go_at_call 11; refine HR.out.mono ?_; rintro x w2 ⟨rfl, hb2⟩) | fail)
    go_ret
    exact ⟨rfl, hb2⟩
  · have k5 : (t == 5) = false := by simp [ht]
    rw [decide_eq_false ht, Bool.false_and]
    clear ht
    go_enter Try.func128, Try.ntmps128
    go_wp2_with fail
    go_ret
    exact ⟨rfl, Below.refl _ _⟩
theorem c5_any (S : Bs w c b N most k ss) (hB : Blk w bb 24 #[.pointer (some ⟨b, 0, none⟩)]) (hE : Blk w be 80 e.arr) (hq : e.o.qty ≤ 9223372036854775807) :
    Calls Try.prog 129 #[.pointer (some ⟨be, 0, none⟩), .pointer (some ⟨bb, 0, none⟩)] w (QPost (decide (e.typ = 4) && decide (0 < (mkP (tkE e) (osOf ss)).2.1)) w) := by
  have b0 : w.cell? ⟨bb, 0, none⟩ = some (.pointer (some ⟨b, 0, none⟩)) := hB.cell 0
  have e7 : w.cell? ⟨be, 7, none⟩ = some (.int .i64 e.typ) := hE.cell 7
  have HP := Lib.hid (plan_any S e hq)
  obtain ⟨⟨fs, left, stop⟩, hpr⟩ : ∃ pr, pr = mkP (tkE e) (osOf ss) := ⟨_, rfl⟩
  rw [← hpr] at HP
  rw [← hpr]
  clear hpr S hB
  generalize he : e.typ = t at *
  by_cases ht : t = 4
  · have k4 : (t == 4) = true := by simp [ht]
    rw [decide_eq_true ht, Bool.true_and]
    clear ht he
    go_enter Try.func129, Try.ntmps129
    go_wp2_with (first | ((with_reducible show wpList _ _ _ (⟨_, .load 80 _, _, _, _, _⟩ :: _) _ _); refine wpList_load_ho 80 _ (by rfl) (by rfl) ?_ (.pointer (some ⟨_, 0, none⟩)) (by rfl) ?_ _ Try.underlying80 rfl ?_ ?_; rotate_left; (next => (repeat (first | (with_reducible refine BlkAt.new _ _ _ _ ?_; ((try simp) <;> omega)) | (with_reducible assumption) | (with_reducible refine Blk.at (t := ?_) ?_; rotate_left; with_reducible assumption) | with_reducible refine BlkAt.alloc ?_ _ | with_reducible refine BlkAt.drew ?_ | (with_reducible refine BlkAt.setSame ?_ _ _) | (with_reducible refine BlkAt.setCell ?_ ?_ _; rotate_left; ((try simp) <;> omega)) | (with_reducible refine BlkAt.ext (w := ?_) ?_ ?_; rotate_left 2; (with_reducible assumption)) | fail))); (next => kernel_rfl)) | fail)
    refine HP.out.mono ?_
    rintro x w2 ⟨⟨v, rfl, hown2⟩, hb2⟩
    obtain ⟨A2, cp2, rfl⟩ := Sw.owns_slice hown2
    have hfd : ∀ W : World, (Instr.field 65 (.agg #[.slice A2 fs.length cp2, .int .i64 left, .int .i64 stop]) 1).run Try.prog W = .ok (.int .i64 left) W := fun _ => by kernel_rfl
    clear hown2
    go_wp2_with fail
    go_ret
    exact ⟨rfl, hb2⟩
  · have k4 : (t == 4) = false := by simp [ht]
    rw [decide_eq_false ht, Bool.false_and]
    clear ht he
    go_enter Try.func129, Try.ntmps129
    go_wp2_with fail
    go_ret
    exact ⟨rfl, Below.refl _ _⟩
/-- What the loads of Check's last question lean on. -/
structure S6 (w : World) (bb bo be b : Nat) (e : En) (W : World) : Prop where
  b0 : W.cell? ⟨bb, 0, none⟩ = some (.pointer (some ⟨b, 0, none⟩))
  E : Blk W be 80 e.arr
  low : Below w.heap.size w W
theorem c6_any (S : Bs w c b N most k ss) (hB : Blk w bb 24 #[.pointer (some ⟨b, 0, none⟩)]) (hO : Blk w bo 43 e.o.arr) (hE : Blk w be 80 e.arr) (hs : e.o.side = 0 ∨ e.o.side = 1) (hq : e.o.qty ≤ 9223372036854775807) :
    Calls Try.prog 130 #[.pointer (some ⟨be, 0, none⟩), .pointer (some ⟨bb, 0, none⟩), .pointer (some ⟨bo, 0, none⟩)] w (QPost (restsF (osOf ss) e (mkP (tkE e) (osOf ss)) && !roomO N most e.o.side (edgeF e) (osOf ss)) w) := by
  have b0 : w.cell? ⟨bb, 0, none⟩ = some (.pointer (some ⟨b, 0, none⟩)) := hB.cell 0
  have o2 : w.cell? ⟨bo, 2, none⟩ = some (.int .i64 e.o.side) := hO.cell 2
  have lB := hB.lt
  have lO := hO.lt
  have HP := Lib.hid (fun W (hW : Below w.heap.size w W) => plan_any (S.ext hW) e hq)
  have hlen : (mkP (tkE e) (osOf ss)).1.length ≤ 500 := Nat.le_trans (mkP_len _ _) (Sw.Bs.few S)
  have HL := Lib.hid (fun (h : restsF (osOf ss) e (mkP (tkE e) (osOf ss)) = true) => rests_left h)
  have HS := Lib.hid S
  have HSD := Lib.hid hs
  have HED := Lib.hid (fun W => edge_any e W)
  obtain ⟨⟨fs, left, stop⟩, hpr⟩ : ∃ pr, pr = mkP (tkE e) (osOf ss) := ⟨_, rfl⟩
  rw [← hpr] at HP hlen HL
  rw [← hpr]
  clear hpr S hB hs
  go_enter Try.func130, Try.ntmps130
  go_wp2_with fail
  refine wp_region_T (S := S6 w bb bo be b e) 16 (by kernel_rfl) ?_
  have hb1 : Below w.heap.size w w.drew := (Below.refl _ _).drew
  have hS : S6 w bb bo be b e w.drew := ⟨b0, hE.drew, hb1⟩
  generalize w.drew = w1 at *
  (refine T_take (i := 0) rfl (by kernel_rfl) (fun _ _ _ _ h => h) hS ?_; refine ⟨_, y_load_blk 80 _ rfl (by rfl) be (by rfl) 80 e.arr _ (fun W h => h.E) Try.underlying80 rfl (by kernel_rfl), ?_⟩; simp only [Act.put, List.setIfInBounds_toArray, List.set_cons_zero, List.set_cons_succ])
  (refine T_take (i := 1) rfl (by kernel_rfl) (fun _ _ _ _ h => h) hS ?_; apply Exists.intro; refine ⟨.inl ⟨by rfl, fun W hW => ?_⟩, ?_⟩; (next => (have hs1 := hW.b0; go_simp; first | done | rfl)); simp only [Act.put, List.setIfInBounds_toArray, List.set_cons_zero, List.set_cons_succ])
  (refine T_take (i := 2) rfl (by kernel_rfl) (fun _ _ _ _ h => h) hS ?_; refine ⟨_, y_load_blk 80 _ rfl (by rfl) be (by rfl) 80 e.arr _ (fun W h => h.E) Try.underlying80 rfl (by kernel_rfl), ?_⟩; simp only [Act.put, List.setIfInBounds_toArray, List.set_cons_zero, List.set_cons_succ])
  (refine T_take (i := 3) rfl (by kernel_rfl) (fun _ _ _ _ h => h) hS ?_; apply Exists.intro; refine ⟨.inl ⟨by rfl, fun W hW => ?_⟩, ?_⟩; (next => (have hs1 := hW.b0; go_simp; first | done | rfl)); simp only [Act.put, List.setIfInBounds_toArray, List.set_cons_zero, List.set_cons_succ])
  refine T_all [4] (by kernel_rfl) (by decide) ?_
  intro j hj
  simp only [List.mem_cons, or_false, List.not_mem_nil] at hj
  subst hj
  refine T_op rfl (by rfl) ?_
  refine wp_enterE (ops := #[]) (F := 83) (args := #[.agg e.arr, .pointer (some ⟨b, 0, none⟩)]) ?_ ?_
  (next => first | (go_simp; done) | (go_simp; rfl))
  refine (HP.out _ hb1).mono ?_
  rintro x w2 ⟨⟨v, rfl, hown2⟩, hb2⟩
  have hS2 : ∀ W, Below w2.heap.size w2 W → S6 w bb bo be b e W := fun W hW => ⟨((below_ext hb2 hW).cell (p := ⟨bb, 0, none⟩) (cell_lt hS.b0)).trans hS.b0, hS.E.ext (below_ext hb2 hW), hb1.trans ((below_ext hb2 hW).mono hb1.size)⟩
  refine ⟨_, rfl, .inr (hS2 _ (Below.refl _ _)), ?_⟩
  simp only [Act.put, List.setIfInBounds_toArray, List.set_cons_zero, List.set_cons_succ]
  refine T_rest 5 (by rfl) (by kernel_rfl) hS2 ?_
  simp only [List.drop_succ_cons, List.drop_zero]
  clear hS hS2
  obtain ⟨A2, cp2, rfl, hrd2, _, _, hf2⟩ := Sw.owns_fl hown2
  have hbw2 := below_ext hb1 hb2
  have HRS := Lib.hid (fun W (hW : Below w2.heap.size w2 W) => rests_any (HS.out.ext (below_ext hbw2 hW)) e HSD.out (hrd2.below hW) (fun a h => Nat.lt_of_lt_of_le (hf2 a h).2 hW.size) (cap := cp2) hlen left stop)
  have b02 : w2.cell? ⟨bb, 0, none⟩ = some (.pointer (some ⟨b, 0, none⟩)) := (hbw2.cell (p := ⟨bb, 0, none⟩) lB).trans b0
  have o22 : w2.cell? ⟨bo, 2, none⟩ = some (.int .i64 e.o.side) := (hbw2.cell (p := ⟨bo, 2, none⟩) lO).trans o2
  have hE2 := hE.ext hbw2
  have lB2 : bb < w2.heap.size := Nat.lt_of_lt_of_le lB hbw2.size
  have lO2 : bo < w2.heap.size := Nat.lt_of_lt_of_le lO hbw2.size
  clear hown2 hrd2 hf2 HP hE b0 o2 hb1 hb2 lB lO
  cases hr : restsF (osOf ss) e (fs, left, stop) with
  | false =>
    rw [hr] at HRS
    have HR := Lib.hid hr
    clear hr HL
    skip
    repeat (first | go_big_quiet_skip | (go_big_quiet_want; go_big_quiet_op; go_big_quiet_on) | (refine q_load_fld (by rfl) _ _ (by rfl) (fun _ h => h) _ _ (by rfl) ?_ ?_ ?_ ?_ ?_ ?_; rotate_left; (next => (repeat (first | (with_reducible refine BlkAt.new _ _ _ _ ?_; ((try simp) <;> omega)) | (with_reducible assumption) | (with_reducible refine Blk.at (t := ?_) ?_; rotate_left; with_reducible assumption) | with_reducible refine BlkAt.alloc ?_ _ | with_reducible refine BlkAt.drew ?_ | (with_reducible refine BlkAt.setSame ?_ _ _) | (with_reducible refine BlkAt.setCell ?_ ?_ _; rotate_left; ((try simp) <;> omega)) | (with_reducible refine BlkAt.ext (w := ?_) ?_ ?_; rotate_left 2; (with_reducible assumption)) | fail))); rotate_left; (next => first | (simp only [go_sem]; rfl) | rfl); (next => kernel_rfl); (try simp only [Act.put, List.setIfInBounds_toArray, List.set_cons_zero, List.set_cons_succ])) | (refine q_rem (by rfl) _ _ _ _ (by rfl) _ _ (by rfl) (by rfl) (by kernel_rfl) (by kernel_rfl) ?_ ?_; (next => omega); (try simp only [Act.put, List.setIfInBounds_toArray, List.set_cons_zero, List.set_cons_succ])) | (refine q_step_ex (by rfl) ?_; apply Exists.intro; refine ⟨fun W hW => ?_, ?_⟩; (next => (have hWc := fun (b o : Nat) (h : b < _) => (Ext.out hW).cell (p := ⟨b, o, none⟩) h); (try have hLK := HLK.out W (Ext.out hW)); go_simp; first | rfl | (go_at_call 84; refine (HRS.out _ hW.out).mono ?_; rintro x w'' ⟨rfl, hb4⟩; exact ⟨rfl, below_ext hW.out hb4⟩) | fail); (try simp only [Act.put, List.setIfInBounds_toArray, List.set_cons_zero, List.set_cons_succ])) | fail)
    refine wpQuiet_nil ?_
    intro w3 hb3
    go_wp2_with fail
    go_ret
    exact ⟨ret_bool (by rw [HR.out]; rfl), below_ext hbw2 hb3⟩
  | true =>
    have hed := HL.out hr
    have HRM := Lib.hid (fun W (hW : Below w2.heap.size w2 W) => Bk.room_any (HS.out.ext (below_ext hbw2 hW)) e.o.side (edgeF e) ⟨by omega, by omega⟩)
    rw [hr] at HRS
    have HR := Lib.hid hr
    clear hr HL hed
    generalize edgeF e = ed at *
    generalize roomO N most e.o.side ed (osOf ss) = z at *
    skip
    repeat (first | go_big_quiet_skip | (go_big_quiet_want; go_big_quiet_op; go_big_quiet_on) | (refine q_load_blk (by rfl) 80 _ (by rfl) ?_ (.pointer (some ⟨_, 0, none⟩)) (by rfl) ?_ _ (fun _ h => h) Try.underlying80 rfl ?_ ?_; rotate_left; (next => (repeat (first | (with_reducible refine BlkAt.new _ _ _ _ ?_; ((try simp) <;> omega)) | (with_reducible assumption) | (with_reducible refine Blk.at (t := ?_) ?_; rotate_left; with_reducible assumption) | with_reducible refine BlkAt.alloc ?_ _ | with_reducible refine BlkAt.drew ?_ | (with_reducible refine BlkAt.setSame ?_ _ _) | (with_reducible refine BlkAt.setCell ?_ ?_ _; rotate_left; ((try simp) <;> omega)) | (with_reducible refine BlkAt.ext (w := ?_) ?_ ?_; rotate_left 2; (with_reducible assumption)) | fail))); (next => kernel_rfl); (try simp only [Act.put, List.setIfInBounds_toArray, List.set_cons_zero, List.set_cons_succ])) | (refine q_load_fld (by rfl) _ _ (by rfl) (fun _ h => h) _ _ (by rfl) ?_ ?_ ?_ ?_ ?_ ?_; rotate_left; (next => (repeat (first | (with_reducible refine BlkAt.new _ _ _ _ ?_; ((try simp) <;> omega)) | (with_reducible assumption) | (with_reducible refine Blk.at (t := ?_) ?_; rotate_left; with_reducible assumption) | with_reducible refine BlkAt.alloc ?_ _ | with_reducible refine BlkAt.drew ?_ | (with_reducible refine BlkAt.setSame ?_ _ _) | (with_reducible refine BlkAt.setCell ?_ ?_ _; rotate_left; ((try simp) <;> omega)) | (with_reducible refine BlkAt.ext (w := ?_) ?_ ?_; rotate_left 2; (with_reducible assumption)) | fail))); rotate_left; (next => first | (simp only [go_sem]; rfl) | rfl); (next => kernel_rfl); (try simp only [Act.put, List.setIfInBounds_toArray, List.set_cons_zero, List.set_cons_succ])) | (refine q_rem (by rfl) _ _ _ _ (by rfl) _ _ (by rfl) (by rfl) (by kernel_rfl) (by kernel_rfl) ?_ ?_; (next => omega); (try simp only [Act.put, List.setIfInBounds_toArray, List.set_cons_zero, List.set_cons_succ])) | (refine q_step_ex (by rfl) ?_; apply Exists.intro; refine ⟨fun W hW => ?_, ?_⟩; (next => (have hWc := fun (b o : Nat) (h : b < _) => (Ext.out hW).cell (p := ⟨b, o, none⟩) h); (try have hLK := HLK.out W (Ext.out hW)); go_simp; first | rfl | (go_at_call 84; refine (HRS.out _ hW.out).mono ?_; rintro x w'' ⟨rfl, hb4⟩; exact ⟨rfl, below_ext hW.out hb4⟩) | (go_at_call 86; refine (HED.out _).mono ?_; rintro x w'' ⟨rfl, hb4⟩; exact ⟨rfl, below_ext hW.out hb4⟩) | (go_at_call 70; refine (HRM.out _ hW.out).mono ?_; rintro x w'' ⟨rfl, hb4⟩; exact ⟨rfl, below_ext hW.out hb4⟩) | fail); (try simp only [Act.put, List.setIfInBounds_toArray, List.set_cons_zero, List.set_cons_succ])) | fail)
    refine wpQuiet_nil ?_
    intro w3 hb3
    go_wp2_with fail
    go_ret
    exact ⟨ret_bool (by rw [HR.out]; rfl), below_ext hbw2 hb3⟩
def cK : Nat → Nat
  | 0 => 124
  | 1 => 125
  | 2 => 127
  | 3 => 128
  | 4 => 129
  | _ => 130
def cC (bb bo be : Nat) : Nat → Array Value
  | 0 => #[.pointer (some ⟨bb, 0, none⟩), .pointer (some ⟨bo, 0, none⟩), .pointer (some ⟨be, 0, none⟩)]
  | 1 => #[.pointer (some ⟨bo, 0, none⟩), .pointer (some ⟨be, 0, none⟩)]
  | 2 => #[.pointer (some ⟨bb, 0, none⟩), .pointer (some ⟨bo, 0, none⟩)]
  | 3 => #[.pointer (some ⟨be, 0, none⟩), .pointer (some ⟨bb, 0, none⟩), .pointer (some ⟨bo, 0, none⟩)]
  | 4 => #[.pointer (some ⟨be, 0, none⟩), .pointer (some ⟨bb, 0, none⟩)]
  | _ => #[.pointer (some ⟨be, 0, none⟩), .pointer (some ⟨bb, 0, none⟩), .pointer (some ⟨bo, 0, none⟩)]
theorem cQ : ∀ k, k < 6 → ∀ args W, (callFunc (cK k) args).run Try.prog W = .ok (.enter (cK k) args) W
  | 0, _ => fun args W => callFunc_in (fn := Try.f124) (by kernel_rfl) (by kernel_rfl) rfl args W
  | 1, _ => fun args W => callFunc_in (fn := Try.f125) (by kernel_rfl) (by kernel_rfl) rfl args W
  | 2, _ => fun args W => callFunc_in (fn := Try.f127) (by kernel_rfl) (by kernel_rfl) rfl args W
  | 3, _ => fun args W => callFunc_in (fn := Try.f128) (by kernel_rfl) (by kernel_rfl) rfl args W
  | 4, _ => fun args W => callFunc_in (fn := Try.f129) (by kernel_rfl) (by kernel_rfl) rfl args W
  | 5, _ => fun args W => callFunc_in (fn := Try.f130) (by kernel_rfl) (by kernel_rfl) rfl args W
  | n + 6, h => absurd h (by omega)
def qArr (bb bo be : Nat) : Array Value := #[.func (.func 124) #[] (cC bb bo be 0), .int .i64 1, .func (.func 125) #[] (cC bb bo be 1), .int .i64 9, .func (.func 127) #[] (cC bb bo be 2), .int .i64 6, .func (.func 128) #[] (cC bb bo be 3), .int .i64 12, .func (.func 129) #[] (cC bb bo be 4), .int .i64 13, .func (.func 130) #[] (cC bb bo be 5), .int .i64 7]
theorem check_core {g : Nat} {tf : TypeId} (S : Bs w c b N most k ss) (hB : Blk w bb 24 #[.pointer (some ⟨b, 0, none⟩)]) (hO : Blk w bo 43 e.o.arr) (hE : Blk w be 80 e.arr) (hF : Blk w g tf (qArr bb bo be)) (hid : Idx.Wf e.o.id) (hp : I64 e.o.price) (hq : e.o.qty ≤ 9223372036854775807) :
    Calls Try.prog 123 #[.slice (some ⟨g, 0, none⟩) 6 6] w (FPost (checkF N most (osOf ss) e) w) := by
  refine mfirst_any 6 g cK (cC bb bo be) (askQ N most (osOf ss) e) fauK (by decide) ?_ cQ ?_
  · intro k hk j v hv
    rw [hF.cell]
    match k, hk with
    | 0, _ | 1, _ | 2, _ | 3, _ | 4, _ | 5, _ =>
      match j, hv with
      | 0, hv => exact hv
      | 1, hv => exact hv
      | n + 2, hv => simp at hv
  · intro k hk hz W hW
    match k, hk with
    | 0, _ => exact c1_any (hB.ext hW) (hO.ext hW) (hE.ext hW)
    | 1, _ => exact c2_any (hO.ext hW) (hE.ext hW) hp
    | 2, _ => exact c3_any (S.ext hW) (hB.ext hW) (hO.ext hW) hid
    | 3, _ => exact c4_any (S.ext hW) (hB.ext hW) (hO.ext hW) (hE.ext hW)
    | 4, _ => exact c5_any (S.ext hW) (hB.ext hW) (hE.ext hW) hq
    | 5, _ =>
      have h0 : decide ((e.o.side ≠ 0 ∧ e.o.side ≠ 1) ∨ e.typ < 1 ∨ 5 < e.typ) = false := hz 0 (by omega)
      exact c6_any (S.ext hW) (hB.ext hW) (hO.ext hW) (hE.ext hW) (by have := of_decide_eq_false h0; omega) hq
theorem check_any (S : Bs w c b N most k ss) (e : En) (hid : Idx.Wf e.o.id) (hp : I64 e.o.price) (hq : e.o.qty ≤ 9223372036854775807) : Calls Try.prog 82 #[.pointer (some ⟨b, 0, none⟩), .agg e.arr] w (FPost (checkF N most (osOf ss) e) w) := by
  have hmf : ∀ (fn : Fn) (first cap : Array Value) (W : World), (Instr.makeFunc fn first cap).run Try.prog W = .ok (.func fn first cap) W := fun _ _ _ _ => rfl
  obtain ⟨w1, hw1⟩ : ∃ w1, w1 = ((w.alloc (.cells #[.pointer (some ⟨b, 0, none⟩)] 24)).alloc (.cells e.arr 80)) := ⟨_, rfl⟩
  have hB0 : Blk w1 w.heap.size 24 #[.pointer (some ⟨b, 0, none⟩)] := by rw [hw1]; exact (Blk.new w _ _ _ rfl).alloc _
  have hE0 : Blk w1 (w.heap.size + 1) 80 e.arr := by rw [hw1]; exact Blk.new _ _ _ _ (sz_alloc _ _)
  have hb0 : Below w.heap.size w w1 := by rw [hw1]; (repeat (first | with_reducible exact Below.refl _ _ | (with_reducible assumption) | (with_reducible refine below_alloc ?_ _) | (with_reducible refine below_ext (w1 := ?_) ?_ ?_; rotate_left 2; (with_reducible assumption)) | (with_reducible refine Below.setCell ?_ ?_ _; rotate_left; ((try simp) <;> omega)) | (with_reducible refine Below.drew ?_) | (with_reducible refine below_drewN ?_ _) | fail))
  have hmid : w1.rangeAt (w.heap.size + 1) 0 e.o.cells := fun j v hv => by
    rw [hE0.cell, Nat.zero_add]
    have hj : j < 7 := (List.getElem?_eq_some_iff.1 hv).1
    match j, hj, hv with
    | 0, _, hv | 1, _, hv | 2, _, hv | 3, _, hv | 4, _, hv | 5, _, hv | 6, _, hv => exact hv
  have HW1 := Lib.hid hw1
  clear hw1
  go_enter Try.func82, Try.ntmps82
  go_wp2_with fail
  rw [← HW1.out]
  have hz : w1.heap.size = w.heap.size + 1 + 1 := by rw [HW1.out]; simp only [sz_alloc]
  refine (check_core (tf := 214) (bb := w.heap.size) (bo := w.heap.size + 1 + 1) (be := w.heap.size + 1) (e := e) (S.ext ?_) ?_ ?_ ?_ ?_ hid hp hq).mono ?_
  · exact below_alloc (below_alloc hb0 _) _
  · exact (hB0.alloc _).alloc _
  · exact (Blk.new w1 _ _ _ hz).alloc _
  · exact (hE0.alloc _).alloc _
  · exact Blk.new _ _ _ _ (by rw [sz_alloc, hz])
  rintro x w' ⟨rfl, hb1⟩
  go_wp2_with fail
  go_ret
  exact ⟨rfl, below_ext (below_alloc (below_alloc hb0 _) _) hb1⟩
end
end Ma
end Go.Proofs.Ytgaialcbpglhaaa
namespace Go.Proofs.Ytgaialcbpglhaaa
set_option linter.unusedVariables false
open Go.RowKit
namespace Ma
set_option maxHeartbeats 4000000
set_option maxRecDepth 10000
open Bk (bet Bs osOf srt Sl fndI roomO addO addF Cs)
open Sw (Tk Fl mk mkP MkPost appF)
/-- A result's cells. -/
def resArr (f : Int) (v : Value) (o : Ord) (g y : Int) : Array Value := #[.int .i64 f, v, .int .i64 o.id, .int .i64 o.owner, .int .i64 o.side, .int .i64 o.price, .int .i64 o.qty, .int .i64 o.flags, .int .i64 o.seq, .int .i64 g, .int .i64 y]
@[simp] theorem res_size (f : Int) (v : Value) (o : Ord) (g y : Int) : (resArr f v o g y).size = 11 := rfl
theorem res_one (f : Int) (A : Option Addr) (n cap : Nat) (o : Ord) (g y : Int) : (resArr f (.slice A n cap) o g y).all (·.oneCell') = true := by simp [resArr, Value.oneCell']
/-- What Enter leaves. -/
def EnPost (w : World) (c : Nat → Nat) (b N most k : Nat) (r : Rs × List Ord) (x : Ending) (w' : World) : Prop :=
  ∃ A cap c' ss', x = .returned (.agg (resArr r.1.fault (.slice A r.1.fills.length cap) r.1.rest r.1.gone r.1.why)) ∧ Rd w' 4 A (r.1.fills.map Fl.cells) ∧ (∀ a, A = some a → w.heap.size ≤ a.block ∧ a.block < w'.heap.size) ∧ Bs w' c' b N most k ss' ∧ osOf ss' = r.2 ∧ Cs c c' w w'
theorem mk_mem (t : Tk) : ∀ (l : List Ord) (q : Int), ∀ f ∈ (mk t l q).1, ∃ o ∈ l, f.id = o.id
  | [], q => by simp [mk]
  | o :: l, q => by
    unfold mk
    split
    · simp
    · split
      · simp
      · split
        · simp
        · split
          · intro f hf
            rcases List.mem_cons.1 hf with rfl | hf
            · exact ⟨o, by simp, rfl⟩
            · obtain ⟨x, hx, h⟩ := mk_mem t l _ f hf
              exact ⟨x, by simp [hx], h⟩
          · split
            · simp
            · split
              · intro f hf
                rw [List.mem_singleton.1 hf]
                exact ⟨o, by simp, rfl⟩
              · intro f hf
                rcases List.mem_cons.1 hf with rfl | hf
                · exact ⟨o, by simp, rfl⟩
                · obtain ⟨x, hx, h⟩ := mk_mem t l _ f hf
                  exact ⟨x, by simp [hx], h⟩
theorem mkP_wf {t : Tk} {os : List Ord} (h : ∀ o ∈ os, Idx.Wf o.id) : ∀ f ∈ (mkP t os).1, Idx.Wf f.id := by
  intro f hf
  unfold mkP at hf
  split at hf
  · obtain ⟨o, ho, e⟩ := mk_mem _ _ _ f hf
    rw [e]
    exact h o (Sw.srt_mem ho)
  · simp at hf
theorem results_res {fn : Func} {p : Tmp} (h : fn.results = #[.cell p 78]) (tmps : Array Value) (w : World) (g : Nat) (cs : Array Value) (hp : tmps.getD p undef = .pointer (some ⟨g, 0, none⟩)) (hb : Blk w g 78 cs) (h3 : cs.size = 11) :
    (results fn tmps).run Try.prog w = .ok (.agg cs) w :=
  results_cell_row h _ _ _ _ _ _ _ hp hb Try.underlying78 rfl (by rw [h3]; kernel_rfl)
section
variable {w : World} {c : Nat → Nat} {b N most k : Nat} {ss : List Sl}
/-- Something is wrong: nothing is done. -/
theorem enter_bad (S : Bs w c b N most k ss) (e : En) (hid : Idx.Wf e.o.id) (hp : I64 e.o.price) (hq : e.o.qty ≤ 9223372036854775807) (hc : checkF N most (osOf ss) e ≠ 0) : Calls Try.prog 31 #[.pointer (some ⟨b, 0, none⟩), .agg e.arr] w (EnPost w c b N most k (enterF N most (osOf ss) e)) := by
  have hE0 : Blk ((w.alloc (.cells e.arr 80)).alloc (.cells (resArr 0 (.slice none 0 0) Are.ord0 0 0) 78)) w.heap.size 80 e.arr := (Blk.new w _ _ _ rfl).alloc _
  have hR0 : Blk ((w.alloc (.cells e.arr 80)).alloc (.cells (resArr 0 (.slice none 0 0) Are.ord0 0 0) 78)) (w.heap.size + 1) 78 (resArr 0 (.slice none 0 0) Are.ord0 0 0) := Blk.new _ _ _ _ (sz_alloc _ _)
  have hb0 : Below w.heap.size w ((w.alloc (.cells e.arr 80)).alloc (.cells (resArr 0 (.slice none 0 0) Are.ord0 0 0) 78)) := by (repeat (first | with_reducible exact Below.refl _ _ | (with_reducible assumption) | (with_reducible refine below_alloc ?_ _) | (with_reducible refine below_ext (w1 := ?_) ?_ ?_; rotate_left 2; (with_reducible assumption)) | (with_reducible refine Below.setCell ?_ ?_ _; rotate_left; ((try simp) <;> omega)) | (with_reducible refine Below.drew ?_) | (with_reducible refine below_drewN ?_ _) | fail))
  have hr : enterF N most (osOf ss) e = (⟨checkF N most (osOf ss) e, [], Are.ord0, 0, 0⟩, osOf ss) := by unfold enterF; rw [if_pos hc]
  have HC := Lib.hid (check_any (S.ext hb0) e hid hp hq)
  have HS := Lib.hid S
  rw [hr]
  clear hr S
  generalize checkF N most (osOf ss) e = f at *
  have k0 : (f != 0) = true := by simpa using hc
  clear hc
  go_enter Try.func31, Try.ntmps31
  go_wp2_with (first | ((with_reducible show wpList _ _ _ (⟨_, .load 80 _, _, _, _, _⟩ :: _) _ _); refine wpList_load_ho 80 _ (by rfl) (by rfl) ?_ (.pointer (some ⟨_, 0, none⟩)) (by rfl) ?_ _ Try.underlying80 rfl ?_ ?_; rotate_left; (next => (repeat (first | (with_reducible refine BlkAt.new _ _ _ _ ?_; ((try simp) <;> omega)) | (with_reducible assumption) | (with_reducible refine Blk.at (t := ?_) ?_; rotate_left; with_reducible assumption) | with_reducible refine BlkAt.alloc ?_ _ | with_reducible refine BlkAt.drew ?_ | (with_reducible refine BlkAt.setSame ?_ _ _) | (with_reducible refine BlkAt.setCell ?_ ?_ _; rotate_left; ((try simp) <;> omega)) | (with_reducible refine BlkAt.ext (w := ?_) ?_ ?_; rotate_left 2; (with_reducible assumption)) | fail))); (next => kernel_rfl)) | (go_at_call 82; refine HC.out.mono ?_; rintro x w1 ⟨rfl, hb1⟩; have hR1 := hR0.ext hb1) | (((with_reducible show wpList _ _ _ (⟨_, .store _ _ _, _, _, _, _⟩ :: _) _ _); refine wpList_store_fld (by rfl) _ _ _ (by rfl) _ _ (by rfl) _ (by rfl) _ _ hR1 ?_ ?_ (by rfl) (by rfl) ?_; (next => first | omega | ((try simp) <;> omega)); (next => kernel_rfl); intro w2 hR2 hU2); replace hR2 : Blk w2 (w.heap.size + 1) 78 (resArr f (.slice none 0 0) Are.ord0 0 0) := hR2; have r0 : w2.cell? ⟨w.heap.size + 1, 0, none⟩ = some (.int .i64 f) := hR2.cell 0) | ((with_reducible show wpList _ _ _ (⟨_, .load 78 _, _, _, _, _⟩ :: _) _ _); refine wpList_load_ho 78 _ (by rfl) (by rfl) ?_ (.pointer (some ⟨_, 0, none⟩)) (by rfl) ?_ _ Try.underlying78 rfl ?_ ?_; rotate_left; (next => (repeat (first | (with_reducible refine BlkAt.new _ _ _ _ ?_; ((try simp) <;> omega)) | (with_reducible assumption) | (with_reducible refine Blk.at (t := ?_) ?_; rotate_left; with_reducible assumption) | with_reducible refine BlkAt.alloc ?_ _ | with_reducible refine BlkAt.drew ?_ | (with_reducible refine BlkAt.setSame ?_ _ _) | (with_reducible refine BlkAt.setCell ?_ ?_ _; rotate_left; ((try simp) <;> omega)) | (with_reducible refine BlkAt.ext (w := ?_) ?_ ?_; rotate_left 2; (with_reducible assumption)) | fail))); (next => kernel_rfl)) | ((with_reducible show wpList _ _ _ (⟨_, .store 78 _ _, _, _, _, _⟩ :: _) _ _); refine wpList_store_blk (by rfl) 78 _ _ (by rfl) _ _ (by rfl) (by rfl) _ _ hR2 (by kernel_rfl) (by rfl) ?_ ?_; (next => exact res_one ..); intro w3 hR3 hU3) | fail)
  have hb3 := below_upd (below_upd (below_ext hb0 hb1) (by omega) hU2) (by omega) hU3
  exact bodyPost_ret (results_res rfl _ _ _ _ (by rfl) hR3 rfl) rfl ⟨none, 0, c, ss, rfl, fun h => absurd rfl h, (fun a h => by cases h), HS.out.ext hb3, rfl, Cs.of_below hb3⟩
/-- What stands when a plan is applied: the entry, the plan, and the result with the fills. -/
structure Ea (w W : World) (c c' : Nat → Nat) (b N most k pb : Nat) (ss' : List Sl) (e : En) (A : Option Addr) (cap : Nat) (fs : List Fl) (left stop : Int) (os' : List Ord) : Prop where
  bs : Bs W c' b N most k ss'
  os : osOf ss' = os'
  cs : Cs c c' w W
  E : Blk W w.heap.size 80 e.arr
  P : Blk W pb 65 #[.slice A fs.length cap, .int .i64 left, .int .i64 stop]
  R : Blk W (w.heap.size + 1) 78 (resArr 0 (.slice none 0 0) Are.ord0 0 0)
  rd : Rd W 4 A (fs.map Fl.cells)
  far : ∀ a, A = some a → w.heap.size + 1 < a.block ∧ a.block < W.heap.size
  pne : pb ≠ w.heap.size + 1
  nine : c' w.heap.size = 9 ∧ c' (w.heap.size + 1) = 9 ∧ c' pb = 9 ∧ ∀ a, A = some a → c' a.block = 9
theorem Ea.ext {w W W' : World} {c c' : Nat → Nat} {b N most k pb : Nat} {ss' : List Sl} {e : En} {A : Option Addr} {cap : Nat} {fs : List Fl} {left stop : Int} {os' : List Ord} (h : Ea w W c c' b N most k pb ss' e A cap fs left stop os') (hb : Below W.heap.size W W') : Ea w W' c c' b N most k pb ss' e A cap fs left stop os' :=
  ⟨h.bs.ext hb, h.os, h.cs.trans (Cs.of_below hb), h.E.ext hb, h.P.ext hb, h.R.ext hb, h.rd.below hb, fun a q => by have := h.far a q; have := hb.size; omega, h.pne, h.nine⟩
/-- What is left of it when the result is written. -/
structure Eb (w W : World) (c c' : Nat → Nat) (b N most k : Nat) (ss' : List Sl) (A : Option Addr) (fs : List Fl) (os' : List Ord) : Prop where
  bs : Bs W c' b N most k ss'
  os : osOf ss' = os'
  cs : Cs c c' w W
  rd : Rd W 4 A (fs.map Fl.cells)
  far : ∀ a, A = some a → w.heap.size + 1 < a.block ∧ a.block < W.heap.size
  nine : c' (w.heap.size + 1) = 9 ∧ ∀ a, A = some a → c' a.block = 9
theorem Ea.toEb {w W : World} {c c' : Nat → Nat} {b N most k pb : Nat} {ss' : List Sl} {e : En} {A : Option Addr} {cap : Nat} {fs : List Fl} {left stop : Int} {os' : List Ord} (h : Ea w W c c' b N most k pb ss' e A cap fs left stop os') : Eb w W c c' b N most k ss' A fs os' := ⟨h.bs, h.os, h.cs, h.rd, h.far, h.nine.2.1, h.nine.2.2.2⟩
section
variable {w W W' : World} {c c' : Nat → Nat} {b N most k : Nat} {ss' : List Sl} {A : Option Addr} {fs : List Fl} {os' : List Ord}
theorem Eb.upd (h : Eb w W c c' b N most k ss' A fs os') (u : Upd (w.heap.size + 1) W W') : Eb w W' c c' b N most k ss' A fs os' :=
  ⟨h.bs.only9 (Bk.Only.upd9 u h.nine.1), h.os, h.cs.upd (by omega) u, h.rd.upd (fun a q => by have := h.far a q; omega) u, fun a q => by have := h.far a q; have := u.size; omega, h.nine⟩
/-- A step on the book. -/
theorem Eb.step {c2 : Nat → Nat} {k2 : Nat} {ss2 : List Sl} {os2 : List Ord} (h : Eb w W c c' b N most k ss' A fs os') (B : Bs W' c2 b N most k2 ss2) (ho : osOf ss2 = os2) (hs : Cs c' c2 W W') (hl : w.heap.size + 1 < W.heap.size) : Eb w W' c c2 b N most k2 ss2 A fs os2 :=
  ⟨B, ho, h.cs.trans hs, hs.rd h.rd h.nine.2 (fun a q => (h.far a q).2), fun a q => by have := h.far a q; have := hs.size; omega, (hs.old _ hl).trans h.nine.1, fun a q => (hs.old _ (h.far a q).2).trans (h.nine.2 a q)⟩
theorem Eb.ext (h : Eb w W c c' b N most k ss' A fs os') (hb : Below W.heap.size W W') : Eb w W' c c' b N most k ss' A fs os' :=
  ⟨h.bs.ext hb, h.os, h.cs.trans (Cs.of_below hb), h.rd.below hb, fun a q => by have := h.far a q; have := hb.size; omega, h.nine⟩
end
def S9 (w : World) (pb : Nat) (e : En) (A : Option Addr) (n cap : Nat) (left stop : Int) (W : World) : Prop := W.cell? ⟨pb, 1, none⟩ = some (.int .i64 left) ∧ (Blk W pb 65 #[.slice A n cap, .int .i64 left, .int .i64 stop] ∧ Blk W w.heap.size 80 e.arr)
theorem enter_gone (S : Bs w c b N most k ss) (e : En) (hid : Idx.Wf e.o.id) (hp : I64 e.o.price) (hq : e.o.qty ≤ 9223372036854775807) (hc : checkF N most (osOf ss) e = 0) (hr0 : restsF (osOf ss) e (mkP (tkE e) (osOf ss)) = false) (hk : k + (mkP (tkE e) (osOf ss)).1.length + 1 < 1000) :
    Calls Try.prog 31 #[.pointer (some ⟨b, 0, none⟩), .agg e.arr] w (EnPost w c b N most (k + (mkP (tkE e) (osOf ss)).1.length + 1) (enterF N most (osOf ss) e)) := by
  have hE0 : Blk ((w.alloc (.cells e.arr 80)).alloc (.cells (resArr 0 (.slice none 0 0) Are.ord0 0 0) 78)) w.heap.size 80 e.arr := (Blk.new w _ _ _ rfl).alloc _
  have hR0 : Blk ((w.alloc (.cells e.arr 80)).alloc (.cells (resArr 0 (.slice none 0 0) Are.ord0 0 0) 78)) (w.heap.size + 1) 78 (resArr 0 (.slice none 0 0) Are.ord0 0 0) := Blk.new _ _ _ _ (sz_alloc _ _)
  have hb0 : Below w.heap.size w ((w.alloc (.cells e.arr 80)).alloc (.cells (resArr 0 (.slice none 0 0) Are.ord0 0 0) 78)) := by (repeat (first | with_reducible exact Below.refl _ _ | (with_reducible assumption) | (with_reducible refine below_alloc ?_ _) | (with_reducible refine below_ext (w1 := ?_) ?_ ?_; rotate_left 2; (with_reducible assumption)) | (with_reducible refine Below.setCell ?_ ?_ _; rotate_left; ((try simp) <;> omega)) | (with_reducible refine Below.drew ?_) | (with_reducible refine below_drewN ?_ _) | fail))
  have hr : enterF N most (osOf ss) e = (⟨0, (mkP (tkE e) (osOf ss)).1, Are.ord0, (mkP (tkE e) (osOf ss)).2.1, whyF e (mkP (tkE e) (osOf ss))⟩, (appF (mkP (tkE e) (osOf ss)).1 (osOf ss)).2) := by unfold enterF; rw [if_neg (by rw [hc]; simp), if_neg (by rw [hr0]; simp)]
  have hsd := (good hc).side
  have HC := Lib.hid (check_any (S.ext hb0) e hid hp hq)
  rw [hc] at HC
  have HPL := Lib.hid (fun W (hW : Below w.heap.size w W) => plan_any (S.ext hW) e hq)
  have hlen : (mkP (tkE e) (osOf ss)).1.length ≤ 500 := Nat.le_trans (mkP_len _ _) (Sw.Bs.few S)
  have hwf : ∀ f ∈ (mkP (tkE e) (osOf ss)).1, Idx.Wf f.id := mkP_wf (fun o ho => (Sw.Bs.okk S o ho).2.2.2)
  have h9 : ∀ r, w.heap.size ≤ r → c r = 9 := fun r h => Bk.Bs.out14 S h
  have HY := Lib.hid (fun (v : Value) (hv : v.cells = #[v]) W => why_any e v hv (mkP (tkE e) (osOf ss)) W)
  rw [hr]
  clear hr hc
  obtain ⟨pr, hpr⟩ : ∃ pr, pr = mkP (tkE e) (osOf ss) := ⟨_, rfl⟩
  rw [← hpr] at HPL hlen hwf hr0 hk HY
  rw [← hpr]
  clear hpr
  have hy9 : ∃ y, y = whyF e pr := ⟨_, rfl⟩
  obtain ⟨y9, hy9⟩ := hy9
  rw [← hy9] at HY
  rw [← hy9]
  clear hy9
  obtain ⟨fs, left, stop⟩ := pr
  simp only at hlen hwf hk HY
  simp only
  have HS := Lib.hid S
  have HWF := Lib.hid hwf
  have HK := Lib.hid hk
  have H9 := Lib.hid h9
  have HSD := Lib.hid hsd
  have HR0 := Lib.hid hr0
  clear S hwf hk h9 hsd hr0
  go_enter Try.func31, Try.ntmps31
  go_wp2_with (first | ((with_reducible show wpList _ _ _ (⟨_, .load 80 _, _, _, _, _⟩ :: _) _ _); refine wpList_load_ho 80 _ (by rfl) (by rfl) ?_ (.pointer (some ⟨_, 0, none⟩)) (by rfl) ?_ _ Try.underlying80 rfl ?_ ?_; rotate_left; (next => (repeat (first | (with_reducible refine BlkAt.new _ _ _ _ ?_; ((try simp) <;> omega)) | (with_reducible assumption) | (with_reducible refine Blk.at (t := ?_) ?_; rotate_left; with_reducible assumption) | with_reducible refine BlkAt.alloc ?_ _ | with_reducible refine BlkAt.drew ?_ | (with_reducible refine BlkAt.setSame ?_ _ _) | (with_reducible refine BlkAt.setCell ?_ ?_ _; rotate_left; ((try simp) <;> omega)) | (with_reducible refine BlkAt.ext (w := ?_) ?_ ?_; rotate_left 2; (with_reducible assumption)) | fail))); (next => kernel_rfl)) | (go_at_call 82; refine HC.out.mono ?_; rintro x w1 ⟨rfl, hb1⟩; have hR1 := hR0.ext hb1; have hE1 := hE0.ext hb1; have hB1 := below_ext hb0 hb1) | (((with_reducible show wpList _ _ _ (⟨_, .store _ _ _, _, _, _, _⟩ :: _) _ _); refine wpList_store_fld (by rfl) _ _ _ (by rfl) _ _ (by rfl) _ (by rfl) _ _ hR1 ?_ ?_ (by rfl) (by rfl) ?_; (next => first | omega | ((try simp) <;> omega)); (next => kernel_rfl); intro w2 hR2 hU2); replace hR2 : Blk w2 (w.heap.size + 1) 78 (resArr 0 (.slice none 0 0) Are.ord0 0 0) := hR2; have r0 : w2.cell? ⟨w.heap.size + 1, 0, none⟩ = some (.int .i64 0) := hR2.cell 0; have hB2 := below_upd hB1 (show w.heap.size ≤ w.heap.size + 1 by omega) hU2; have hE2 : Blk w2 w.heap.size 80 e.arr := Blk.upd hE1 (by omega) hU2) | fail)
  refine (HPL.out _ hB2).mono ?_
  rintro x w3 ⟨⟨v, rfl, hown3⟩, hb3⟩
  obtain ⟨A3, cp3, rfl, hrd3, _, _, hf3⟩ := Sw.owns_fl hown3
  have hP3 : Blk (w3.alloc (.cells #[.slice none 0 0, .int .i64 0, .int .i64 0] 65)) w3.heap.size 65 #[.slice none 0 0, .int .i64 0, .int .i64 0] := Blk.new _ _ _ _ rfl
  clear hown3 HC hR0 hE0 hb0 hR1 hE1 hB1 hb1 hU2 r0
  go_wp2_with (first | (((with_reducible show wpList _ _ _ (⟨_, .store 65 _ _, _, _, _, _⟩ :: _) _ _); refine wpList_store_blk (by rfl) 65 _ _ (by rfl) _ _ (by rfl) (by rfl) _ _ hP3 (by kernel_rfl) (by rfl) ?_ ?_; (next => first | (simp [Value.oneCell']; done) | (simp [Value.oneCell', Edt.cells]; done) | exact Are.ordArr_one _); intro w4 hP4 hU4); have hb34 : Below w3.heap.size w3 w4 := below_upd (by (repeat (first | with_reducible exact Below.refl _ _ | (with_reducible assumption) | (with_reducible refine below_alloc ?_ _) | (with_reducible refine below_ext (w1 := ?_) ?_ ?_; rotate_left 2; (with_reducible assumption)) | (with_reducible refine Below.setCell ?_ ?_ _; rotate_left; ((try simp) <;> omega)) | (with_reducible refine Below.drew ?_) | (with_reducible refine below_drewN ?_ _) | fail))) (Nat.le_refl _) hU4; have hb24 := below_ext hb3 hb34; have hB4 := below_ext hB2 hb24; have hR4 := hR2.ext hb24; have hE4 := hE2.ext hb24) | ((with_reducible show wpList _ _ _ (⟨_, .load 80 _, _, _, _, _⟩ :: _) _ _); refine wpList_load_ho 80 _ (by rfl) (by rfl) ?_ (.pointer (some ⟨_, 0, none⟩)) (by rfl) ?_ _ Try.underlying80 rfl ?_ ?_; rotate_left; (next => (repeat (first | (with_reducible refine BlkAt.new _ _ _ _ ?_; ((try simp) <;> omega)) | (with_reducible assumption) | (with_reducible refine Blk.at (t := ?_) ?_; rotate_left; with_reducible assumption) | with_reducible refine BlkAt.alloc ?_ _ | with_reducible refine BlkAt.drew ?_ | (with_reducible refine BlkAt.setSame ?_ _ _) | (with_reducible refine BlkAt.setCell ?_ ?_ _; rotate_left; ((try simp) <;> omega)) | (with_reducible refine BlkAt.ext (w := ?_) ?_ ?_; rotate_left 2; (with_reducible assumption)) | fail))); (next => kernel_rfl)) | ((with_reducible show wpList _ _ _ (⟨_, .load 65 _, _, _, _, _⟩ :: _) _ _); refine wpList_load_ho 65 _ (by rfl) (by rfl) ?_ (.pointer (some ⟨_, 0, none⟩)) (by rfl) ?_ _ Try.underlying65 rfl ?_ ?_; rotate_left; (next => (repeat (first | (with_reducible refine BlkAt.new _ _ _ _ ?_; ((try simp) <;> omega)) | (with_reducible assumption) | (with_reducible refine Blk.at (t := ?_) ?_; rotate_left; with_reducible assumption) | with_reducible refine BlkAt.alloc ?_ _ | with_reducible refine BlkAt.drew ?_ | (with_reducible refine BlkAt.setSame ?_ _ _) | (with_reducible refine BlkAt.setCell ?_ ?_ _; rotate_left; ((try simp) <;> omega)) | (with_reducible refine BlkAt.ext (w := ?_) ?_ ?_; rotate_left 2; (with_reducible assumption)) | fail))); (next => kernel_rfl)) | fail)
  have hrd4 := hrd3.below hb34
  have hf4 : ∀ a, A3 = some a → w2.heap.size ≤ a.block ∧ a.block < w4.heap.size := fun a h => by have := hf3 a h; have := hb34.size; omega
  have hz2 := hR2.lt
  have hz3 := hb3.size
  obtain ⟨pb, hpb⟩ : ∃ n, n = w3.heap.size := ⟨_, rfl⟩
  rw [← hpb] at hP4 hz3
  rw [← hpb]
  have hRS := (rests_any (HS.out.ext hB4) e HSD.out hrd4 (fun a h => (hf4 a h).2) (cap := cp3) hlen left stop)
  rw [HR0.out] at hRS
  have HRS := Lib.hid hRS
  clear hRS hP3 hU4 hb34 hb24 hR2 hE2 hrd3 hf3 hpb hb3
  refine HRS.out.mono ?_
  rintro x w5 ⟨rfl, hb5⟩
  have hB5 := below_ext hB4 hb5
  have hP5 := hP4.ext hb5
  have hR5 := hR4.ext hb5
  have hE5 := hE4.ext hb5
  have hrd5 := hrd4.below hb5
  have hf5 : ∀ a, A3 = some a → w2.heap.size ≤ a.block ∧ a.block < w5.heap.size := fun a h => by have := hf4 a h; have := hb5.size; omega
  clear hP4 hR4 hE4 hrd4 hf4 HRS hb5 hB4
  have HAP := Lib.hid (Sw.apply_any (left := left) (stop := stop) (cap := cp3) (HS.out.ext hB5) hrd5 (fun a h => ⟨H9.out _ (by have := (hf5 a h).1; omega), (hf5 a h).2⟩) HWF.out (by have := HK.out; omega))
  go_wp2_with (first | ((with_reducible show wpList _ _ _ (⟨_, .load 65 _, _, _, _, _⟩ :: _) _ _); refine wpList_load_ho 65 _ (by rfl) (by rfl) ?_ (.pointer (some ⟨_, 0, none⟩)) (by rfl) ?_ _ Try.underlying65 rfl ?_ ?_; rotate_left; (next => (repeat (first | (with_reducible refine BlkAt.new _ _ _ _ ?_; ((try simp) <;> omega)) | (with_reducible assumption) | (with_reducible refine Blk.at (t := ?_) ?_; rotate_left; with_reducible assumption) | with_reducible refine BlkAt.alloc ?_ _ | with_reducible refine BlkAt.drew ?_ | (with_reducible refine BlkAt.setSame ?_ _ _) | (with_reducible refine BlkAt.setCell ?_ ?_ _; rotate_left; ((try simp) <;> omega)) | (with_reducible refine BlkAt.ext (w := ?_) ?_ ?_; rotate_left 2; (with_reducible assumption)) | fail))); (next => kernel_rfl)) | fail)
  refine HAP.out.mono ?_
  rintro x w6 ⟨rfl, c6, ss6, hB6, hos6, hcs6⟩
  have EA : Ea w w6 c c6 b N most (k + fs.length) pb ss6 e A3 cp3 fs left stop (appF fs (osOf ss)).2 :=
    ⟨hB6, hos6, (Cs.of_below hB5).trans hcs6, hcs6.blk hE5 (H9.out _ (Nat.le_refl _)), hcs6.blk hP5 (H9.out _ (by omega)), hcs6.blk hR5 (H9.out _ (by omega)), hcs6.rd hrd5 (fun a h => H9.out _ (by have := (hf5 a h).1; omega)) (fun a h => (hf5 a h).2), fun a h => by have := hf5 a h; have := hcs6.size; omega, by omega,
      hcs6.nine hE5.lt (H9.out _ (Nat.le_refl _)), hcs6.nine hR5.lt (H9.out _ (by omega)), hcs6.nine hP5.lt (H9.out _ (by omega)), fun a h => hcs6.nine (hf5 a h).2 (H9.out _ (by have := (hf5 a h).1; omega))⟩
  have HEA := Lib.hid EA
  have hR6 := EA.R
  have p0 : w6.cell? ⟨pb, 0, none⟩ = some (.slice A3 fs.length cp3) := EA.P.cell 0
  have hne := EA.pne
  have hzz := EA.E.lt
  clear HAP hcs6 hos6 hB6 hP5 hR5 hE5 hrd5 hf5 hB5 hlen EA HSD HWF HR0 HPL H9
  go_wp2_with (first | (((with_reducible show wpList _ _ _ (⟨_, .store _ _ _, _, _, _, _⟩ :: _) _ _); refine wpList_store_fld (by rfl) _ _ _ (by rfl) _ _ (by rfl) _ (by rfl) _ _ hR6 ?_ ?_ (by rfl) (by rfl) ?_; (next => first | omega | ((try simp) <;> omega)); (next => kernel_rfl); intro w7 hR7 hU7); replace hR7 : Blk w7 (w.heap.size + 1) 78 (resArr 0 (.slice A3 fs.length cp3) Are.ord0 0 0) := hR7) | fail)
  obtain ⟨EA⟩ : Nonempty (Ea w w6 c c6 b N most (k + fs.length) pb ss6 e A3 cp3 fs left stop (appF fs (osOf ss)).2) := ⟨HEA.out⟩
  have hE7 : Blk w7 w.heap.size 80 e.arr := EA.E.upd (by omega) hU7
  have hP7 : Blk w7 pb 65 #[.slice A3 fs.length cp3, .int .i64 left, .int .i64 stop] := EA.P.upd hne hU7
  clear EA hR6 p0
  refine wp_region_T (S := S9 w pb e A3 fs.length cp3 left stop) 9 (by kernel_rfl) ?_
  have hb78 : Below w7.heap.size w7 w7.drew := (Below.refl _ _).drew
  have hR8 : Blk w7.drew (w.heap.size + 1) 78 (resArr 0 (.slice A3 fs.length cp3) Are.ord0 0 0) := hR7.drew
  have hS : S9 w pb e A3 fs.length cp3 left stop w7.drew := ⟨(hP7.drew).cell 1, hP7.drew, hE7.drew⟩
  generalize w7.drew = w8 at *
  (refine T_take (i := 0) rfl (by kernel_rfl) (fun _ _ _ _ h => h) hS ?_; apply Exists.intro; refine ⟨.inl ⟨by rfl, fun W hW => ?_⟩, ?_⟩; (next => (obtain ⟨hs1, hs2⟩ := hW; go_simp; first | done | rfl)); simp only [Act.put, List.setIfInBounds_toArray, List.set_cons_zero, List.set_cons_succ])
  (refine T_take (i := 1) rfl (by kernel_rfl) (fun _ _ _ _ h => h) hS ?_; apply Exists.intro; refine ⟨.inl ⟨by rfl, fun W hW => ?_⟩, ?_⟩; (next => (obtain ⟨hs1, hs2⟩ := hW; go_simp; first | done | rfl)); simp only [Act.put, List.setIfInBounds_toArray, List.set_cons_zero, List.set_cons_succ])
  (refine T_take (i := 2) rfl (by kernel_rfl) (fun _ _ _ _ h => h) hS ?_; refine ⟨_, y_load_blk 80 _ rfl (by rfl) w.heap.size (by rfl) 80 e.arr _ (fun W h => h.2.2) Try.underlying80 rfl (by kernel_rfl), ?_⟩; simp only [Act.put, List.setIfInBounds_toArray, List.set_cons_zero, List.set_cons_succ])
  (refine T_take (i := 3) rfl (by kernel_rfl) (fun _ _ _ _ h => h) hS ?_; refine ⟨_, y_load_blk 65 _ rfl (by rfl) pb (by rfl) 65 _ _ (fun W h => h.2.1) Try.underlying65 rfl (by kernel_rfl), ?_⟩; simp only [Act.put, List.setIfInBounds_toArray, List.set_cons_zero, List.set_cons_succ])
  (refine T_take (i := 5) rfl (by kernel_rfl) (fun _ _ _ _ h => h) hS ?_; apply Exists.intro; refine ⟨.inl ⟨by rfl, fun W hW => ?_⟩, ?_⟩; (next => (obtain ⟨hs1, hs2⟩ := hW; go_simp; first | done | rfl)); simp only [Act.put, List.setIfInBounds_toArray, List.set_cons_zero, List.set_cons_succ])
  refine T_all [4] (by kernel_rfl) (by decide) ?_
  intro j hj
  simp only [List.mem_cons, or_false, List.not_mem_nil] at hj
  subst hj
  refine T_op rfl (by rfl) ?_
  refine wp_enterE (ops := #[]) (F := 85) (args := #[.agg e.arr, .agg #[.slice A3 fs.length cp3, .int .i64 left, .int .i64 stop]]) ?_ ?_
  (next => first | (go_simp; done) | (go_simp; rfl))
  refine (HY.out (.slice A3 fs.length cp3) rfl _).mono ?_
  rintro x w9 ⟨rfl, hb9⟩
  have hS9 : S9 w pb e A3 fs.length cp3 left stop w9 := ⟨(hS.2.1.ext hb9).cell 1, hS.2.1.ext hb9, hS.2.2.ext hb9⟩
  have hR9 := hR8.ext hb9
  refine ⟨_, rfl, .inr hS9, ?_⟩
  simp only [Act.put, List.setIfInBounds_toArray, List.set_cons_zero, List.set_cons_succ]
  refine T_all [6] (by kernel_rfl) (by decide) ?_
  intro j hj
  simp only [List.mem_cons, or_false, List.not_mem_nil] at hj
  subst hj
  refine T_op rfl (by rfl) ?_
  refine wp_store_fld _ _ _ (by rfl) (w.heap.size + 1) 9 (by rfl) (.int .i64 left) (by rfl) _ _ hR9 (by simp) (by kernel_rfl) rfl rfl ?_
  intro w10 hR10 hU10
  replace hR10 : Blk w10 (w.heap.size + 1) 78 (resArr 0 (.slice A3 fs.length cp3) Are.ord0 left 0) := hR10
  have hP10 := hS9.2.1.upd hne hU10
  have hE10 := hS9.2.2.upd (by omega) hU10
  have hS : S9 w pb e A3 fs.length cp3 left stop w10 := ⟨hP10.cell 1, hP10, hE10⟩
  refine ⟨.inr hS, ?_⟩
  simp only [Act.put]
  (refine T_take (i := 7) rfl (by kernel_rfl) (fun _ _ _ _ h => h) hS ?_; apply Exists.intro; refine ⟨.inl ⟨by rfl, fun W hW => ?_⟩, ?_⟩; (next => (obtain ⟨hs1, hs2⟩ := hW; go_simp; first | done | rfl)); simp only [Act.put, List.setIfInBounds_toArray, List.set_cons_zero, List.set_cons_succ])
  refine T_all [8] (by kernel_rfl) (by decide) ?_
  intro j hj
  simp only [List.mem_cons, or_false, List.not_mem_nil] at hj
  subst hj
  refine T_op rfl (by rfl) ?_
  refine wp_store_fld _ _ _ (by rfl) (w.heap.size + 1) 10 (by rfl) (.int .i64 y9) (by rfl) _ _ hR10 (by simp) (by kernel_rfl) rfl rfl ?_
  intro w11 hR11 hU11
  replace hR11 : Blk w11 (w.heap.size + 1) 78 (resArr 0 (.slice A3 fs.length cp3) Are.ord0 left y9) := hR11
  have hP11 := hP10.upd hne hU11
  have hE11 := hE10.upd (by omega) hU11
  refine ⟨.inr ⟨hP11.cell 1, hP11, hE11⟩, ?_⟩
  simp only [Act.put]
  refine T_done (by kernel_rfl) ?_
  go_wp2_with (first | ((with_reducible show wpList _ _ _ (⟨_, .load 78 _, _, _, _, _⟩ :: _) _ _); refine wpList_load_ho 78 _ (by rfl) (by rfl) ?_ (.pointer (some ⟨_, 0, none⟩)) (by rfl) ?_ _ Try.underlying78 rfl ?_ ?_; rotate_left; (next => (repeat (first | (with_reducible refine BlkAt.new _ _ _ _ ?_; ((try simp) <;> omega)) | (with_reducible assumption) | (with_reducible refine Blk.at (t := ?_) ?_; rotate_left; with_reducible assumption) | with_reducible refine BlkAt.alloc ?_ _ | with_reducible refine BlkAt.drew ?_ | (with_reducible refine BlkAt.setSame ?_ _ _) | (with_reducible refine BlkAt.setCell ?_ ?_ _; rotate_left; ((try simp) <;> omega)) | (with_reducible refine BlkAt.ext (w := ?_) ?_ ?_; rotate_left 2; (with_reducible assumption)) | fail))); (next => kernel_rfl)) | ((with_reducible show wpList _ _ _ (⟨_, .store 78 _ _, _, _, _, _⟩ :: _) _ _); refine wpList_store_blk (by rfl) 78 _ _ (by rfl) _ _ (by rfl) (by rfl) _ _ hR11 (by kernel_rfl) (by rfl) ?_ ?_; (next => exact res_one ..); intro w12 hR12 hU12) | fail)
  refine bodyPost_ret (results_res rfl _ _ _ _ (by rfl) hR12 rfl) rfl ⟨A3, cp3, c6, ss6, rfl, ?_⟩
  have EB := ((((((HEA.out.toEb).upd hU7).ext hb78).ext hb9).upd hU10).upd hU11).upd hU12
  exact ⟨EB.rd, fun a q => by have := EB.far a q; omega, EB.bs.mono1 (by have := HK.out; omega), EB.os, EB.cs⟩
theorem enter_rest (S : Bs w c b N most k ss) (e : En) (hid : Idx.Wf e.o.id) (hp : I64 e.o.price) (hq : e.o.qty ≤ 9223372036854775807) (hc : checkF N most (osOf ss) e = 0) (hr0 : restsF (osOf ss) e (mkP (tkE e) (osOf ss)) = true) (hk : k + (mkP (tkE e) (osOf ss)).1.length + 1 < 1000) :
    Calls Try.prog 31 #[.pointer (some ⟨b, 0, none⟩), .agg e.arr] w (EnPost w c b N most (k + (mkP (tkE e) (osOf ss)).1.length + 1) (enterF N most (osOf ss) e)) := by
  have hE0 : Blk ((w.alloc (.cells e.arr 80)).alloc (.cells (resArr 0 (.slice none 0 0) Are.ord0 0 0) 78)) w.heap.size 80 e.arr := (Blk.new w _ _ _ rfl).alloc _
  have hR0 : Blk ((w.alloc (.cells e.arr 80)).alloc (.cells (resArr 0 (.slice none 0 0) Are.ord0 0 0) 78)) (w.heap.size + 1) 78 (resArr 0 (.slice none 0 0) Are.ord0 0 0) := Blk.new _ _ _ _ (sz_alloc _ _)
  have hb0 : Below w.heap.size w ((w.alloc (.cells e.arr 80)).alloc (.cells (resArr 0 (.slice none 0 0) Are.ord0 0 0) 78)) := by (repeat (first | with_reducible exact Below.refl _ _ | (with_reducible assumption) | (with_reducible refine below_alloc ?_ _) | (with_reducible refine below_ext (w1 := ?_) ?_ ?_; rotate_left 2; (with_reducible assumption)) | (with_reducible refine Below.setCell ?_ ?_ _; rotate_left; ((try simp) <;> omega)) | (with_reducible refine Below.drew ?_) | (with_reducible refine below_drewN ?_ _) | fail))
  have hr : enterF N most (osOf ss) e = (⟨0, (mkP (tkE e) (osOf ss)).1, restO e (mkP (tkE e) (osOf ss)).2.1, 0, 0⟩, addO N most (appF (mkP (tkE e) (osOf ss)).1 (osOf ss)).2 (restO e (mkP (tkE e) (osOf ss)).2.1)) := by unfold enterF; rw [if_neg (by rw [hc]; simp), if_pos hr0]
  have hsd := (good hc).side
  have HC := Lib.hid (check_any (S.ext hb0) e hid hp hq)
  rw [hc] at HC
  have HPL := Lib.hid (fun W (hW : Below w.heap.size w W) => plan_any (S.ext hW) e hq)
  have hlen : (mkP (tkE e) (osOf ss)).1.length ≤ 500 := Nat.le_trans (mkP_len _ _) (Sw.Bs.few S)
  have hwf : ∀ f ∈ (mkP (tkE e) (osOf ss)).1, Idx.Wf f.id := mkP_wf (fun o ho => (Sw.Bs.okk S o ho).2.2.2)
  have h9 : ∀ r, w.heap.size ≤ r → c r = 9 := fun r h => Bk.Bs.out14 S h
  have HY := Lib.hid (fun W => edge_any e W)
  rw [hr]
  clear hr hc
  obtain ⟨pr, hpr⟩ : ∃ pr, pr = mkP (tkE e) (osOf ss) := ⟨_, rfl⟩
  rw [← hpr] at HPL hlen hwf hr0 hk
  rw [← hpr]
  clear hpr
  obtain ⟨fs, left, stop⟩ := pr
  simp only at hlen hwf hk
  simp only
  have HS := Lib.hid S
  have HWF := Lib.hid hwf
  have HK := Lib.hid hk
  have H9 := Lib.hid h9
  have HSD := Lib.hid hsd
  have HR0 := Lib.hid hr0
  clear S hwf hk h9 hsd hr0
  go_enter Try.func31, Try.ntmps31
  go_wp2_with (first | ((with_reducible show wpList _ _ _ (⟨_, .load 80 _, _, _, _, _⟩ :: _) _ _); refine wpList_load_ho 80 _ (by rfl) (by rfl) ?_ (.pointer (some ⟨_, 0, none⟩)) (by rfl) ?_ _ Try.underlying80 rfl ?_ ?_; rotate_left; (next => (repeat (first | (with_reducible refine BlkAt.new _ _ _ _ ?_; ((try simp) <;> omega)) | (with_reducible assumption) | (with_reducible refine Blk.at (t := ?_) ?_; rotate_left; with_reducible assumption) | with_reducible refine BlkAt.alloc ?_ _ | with_reducible refine BlkAt.drew ?_ | (with_reducible refine BlkAt.setSame ?_ _ _) | (with_reducible refine BlkAt.setCell ?_ ?_ _; rotate_left; ((try simp) <;> omega)) | (with_reducible refine BlkAt.ext (w := ?_) ?_ ?_; rotate_left 2; (with_reducible assumption)) | fail))); (next => kernel_rfl)) | (go_at_call 82; refine HC.out.mono ?_; rintro x w1 ⟨rfl, hb1⟩; have hR1 := hR0.ext hb1; have hE1 := hE0.ext hb1; have hB1 := below_ext hb0 hb1) | (((with_reducible show wpList _ _ _ (⟨_, .store _ _ _, _, _, _, _⟩ :: _) _ _); refine wpList_store_fld (by rfl) _ _ _ (by rfl) _ _ (by rfl) _ (by rfl) _ _ hR1 ?_ ?_ (by rfl) (by rfl) ?_; (next => first | omega | ((try simp) <;> omega)); (next => kernel_rfl); intro w2 hR2 hU2); replace hR2 : Blk w2 (w.heap.size + 1) 78 (resArr 0 (.slice none 0 0) Are.ord0 0 0) := hR2; have r0 : w2.cell? ⟨w.heap.size + 1, 0, none⟩ = some (.int .i64 0) := hR2.cell 0; have hB2 := below_upd hB1 (show w.heap.size ≤ w.heap.size + 1 by omega) hU2; have hE2 : Blk w2 w.heap.size 80 e.arr := Blk.upd hE1 (by omega) hU2) | fail)
  refine (HPL.out _ hB2).mono ?_
  rintro x w3 ⟨⟨v, rfl, hown3⟩, hb3⟩
  obtain ⟨A3, cp3, rfl, hrd3, _, _, hf3⟩ := Sw.owns_fl hown3
  have hP3 : Blk (w3.alloc (.cells #[.slice none 0 0, .int .i64 0, .int .i64 0] 65)) w3.heap.size 65 #[.slice none 0 0, .int .i64 0, .int .i64 0] := Blk.new _ _ _ _ rfl
  clear hown3 HC hR0 hE0 hb0 hR1 hE1 hB1 hb1 hU2 r0
  go_wp2_with (first | (((with_reducible show wpList _ _ _ (⟨_, .store 65 _ _, _, _, _, _⟩ :: _) _ _); refine wpList_store_blk (by rfl) 65 _ _ (by rfl) _ _ (by rfl) (by rfl) _ _ hP3 (by kernel_rfl) (by rfl) ?_ ?_; (next => first | (simp [Value.oneCell']; done) | (simp [Value.oneCell', Edt.cells]; done) | exact Are.ordArr_one _); intro w4 hP4 hU4); have hb34 : Below w3.heap.size w3 w4 := below_upd (by (repeat (first | with_reducible exact Below.refl _ _ | (with_reducible assumption) | (with_reducible refine below_alloc ?_ _) | (with_reducible refine below_ext (w1 := ?_) ?_ ?_; rotate_left 2; (with_reducible assumption)) | (with_reducible refine Below.setCell ?_ ?_ _; rotate_left; ((try simp) <;> omega)) | (with_reducible refine Below.drew ?_) | (with_reducible refine below_drewN ?_ _) | fail))) (Nat.le_refl _) hU4; have hb24 := below_ext hb3 hb34; have hB4 := below_ext hB2 hb24; have hR4 := hR2.ext hb24; have hE4 := hE2.ext hb24) | ((with_reducible show wpList _ _ _ (⟨_, .load 80 _, _, _, _, _⟩ :: _) _ _); refine wpList_load_ho 80 _ (by rfl) (by rfl) ?_ (.pointer (some ⟨_, 0, none⟩)) (by rfl) ?_ _ Try.underlying80 rfl ?_ ?_; rotate_left; (next => (repeat (first | (with_reducible refine BlkAt.new _ _ _ _ ?_; ((try simp) <;> omega)) | (with_reducible assumption) | (with_reducible refine Blk.at (t := ?_) ?_; rotate_left; with_reducible assumption) | with_reducible refine BlkAt.alloc ?_ _ | with_reducible refine BlkAt.drew ?_ | (with_reducible refine BlkAt.setSame ?_ _ _) | (with_reducible refine BlkAt.setCell ?_ ?_ _; rotate_left; ((try simp) <;> omega)) | (with_reducible refine BlkAt.ext (w := ?_) ?_ ?_; rotate_left 2; (with_reducible assumption)) | fail))); (next => kernel_rfl)) | ((with_reducible show wpList _ _ _ (⟨_, .load 65 _, _, _, _, _⟩ :: _) _ _); refine wpList_load_ho 65 _ (by rfl) (by rfl) ?_ (.pointer (some ⟨_, 0, none⟩)) (by rfl) ?_ _ Try.underlying65 rfl ?_ ?_; rotate_left; (next => (repeat (first | (with_reducible refine BlkAt.new _ _ _ _ ?_; ((try simp) <;> omega)) | (with_reducible assumption) | (with_reducible refine Blk.at (t := ?_) ?_; rotate_left; with_reducible assumption) | with_reducible refine BlkAt.alloc ?_ _ | with_reducible refine BlkAt.drew ?_ | (with_reducible refine BlkAt.setSame ?_ _ _) | (with_reducible refine BlkAt.setCell ?_ ?_ _; rotate_left; ((try simp) <;> omega)) | (with_reducible refine BlkAt.ext (w := ?_) ?_ ?_; rotate_left 2; (with_reducible assumption)) | fail))); (next => kernel_rfl)) | fail)
  have hrd4 := hrd3.below hb34
  have hf4 : ∀ a, A3 = some a → w2.heap.size ≤ a.block ∧ a.block < w4.heap.size := fun a h => by have := hf3 a h; have := hb34.size; omega
  have hz2 := hR2.lt
  have hz3 := hb3.size
  obtain ⟨pb, hpb⟩ : ∃ n, n = w3.heap.size := ⟨_, rfl⟩
  rw [← hpb] at hP4 hz3
  rw [← hpb]
  have hRS := (rests_any (HS.out.ext hB4) e HSD.out hrd4 (fun a h => (hf4 a h).2) (cap := cp3) hlen left stop)
  rw [HR0.out] at hRS
  have HRS := Lib.hid hRS
  clear hRS hP3 hU4 hb34 hb24 hR2 hE2 hrd3 hf3 hpb hb3
  refine HRS.out.mono ?_
  rintro x w5 ⟨rfl, hb5⟩
  have hB5 := below_ext hB4 hb5
  have hP5 := hP4.ext hb5
  have hR5 := hR4.ext hb5
  have hE5 := hE4.ext hb5
  have hrd5 := hrd4.below hb5
  have hf5 : ∀ a, A3 = some a → w2.heap.size ≤ a.block ∧ a.block < w5.heap.size := fun a h => by have := hf4 a h; have := hb5.size; omega
  clear hP4 hR4 hE4 hrd4 hf4 HRS hb5 hB4
  have HAP := Lib.hid (Sw.apply_any (left := left) (stop := stop) (cap := cp3) (HS.out.ext hB5) hrd5 (fun a h => ⟨H9.out _ (by have := (hf5 a h).1; omega), (hf5 a h).2⟩) HWF.out (by have := HK.out; omega))
  go_wp2_with (first | ((with_reducible show wpList _ _ _ (⟨_, .load 65 _, _, _, _, _⟩ :: _) _ _); refine wpList_load_ho 65 _ (by rfl) (by rfl) ?_ (.pointer (some ⟨_, 0, none⟩)) (by rfl) ?_ _ Try.underlying65 rfl ?_ ?_; rotate_left; (next => (repeat (first | (with_reducible refine BlkAt.new _ _ _ _ ?_; ((try simp) <;> omega)) | (with_reducible assumption) | (with_reducible refine Blk.at (t := ?_) ?_; rotate_left; with_reducible assumption) | with_reducible refine BlkAt.alloc ?_ _ | with_reducible refine BlkAt.drew ?_ | (with_reducible refine BlkAt.setSame ?_ _ _) | (with_reducible refine BlkAt.setCell ?_ ?_ _; rotate_left; ((try simp) <;> omega)) | (with_reducible refine BlkAt.ext (w := ?_) ?_ ?_; rotate_left 2; (with_reducible assumption)) | fail))); (next => kernel_rfl)) | fail)
  refine HAP.out.mono ?_
  rintro x w6 ⟨rfl, c6, ss6, hB6, hos6, hcs6⟩
  have EA : Ea w w6 c c6 b N most (k + fs.length) pb ss6 e A3 cp3 fs left stop (appF fs (osOf ss)).2 :=
    ⟨hB6, hos6, (Cs.of_below hB5).trans hcs6, hcs6.blk hE5 (H9.out _ (Nat.le_refl _)), hcs6.blk hP5 (H9.out _ (by omega)), hcs6.blk hR5 (H9.out _ (by omega)), hcs6.rd hrd5 (fun a h => H9.out _ (by have := (hf5 a h).1; omega)) (fun a h => (hf5 a h).2), fun a h => by have := hf5 a h; have := hcs6.size; omega, by omega,
      hcs6.nine hE5.lt (H9.out _ (Nat.le_refl _)), hcs6.nine hR5.lt (H9.out _ (by omega)), hcs6.nine hP5.lt (H9.out _ (by omega)), fun a h => hcs6.nine (hf5 a h).2 (H9.out _ (by have := (hf5 a h).1; omega))⟩
  have HEA := Lib.hid EA
  have hR6 := EA.R
  have p0 : w6.cell? ⟨pb, 0, none⟩ = some (.slice A3 fs.length cp3) := EA.P.cell 0
  have hne := EA.pne
  have hzz := EA.E.lt
  clear HAP hcs6 hos6 hB6 hP5 hR5 hE5 hrd5 hf5 hB5 hlen EA HSD HWF HR0 HPL H9
  have hmid6 : w6.rangeAt w.heap.size 0 e.o.cells := fun j v hv => by
    rw [HEA.out.E.cell, Nat.zero_add]
    have hj : j < 7 := (List.getElem?_eq_some_iff.1 hv).1
    match j, hj, hv with
    | 0, _, hv | 1, _, hv | 2, _, hv | 3, _, hv | 4, _, hv | 5, _, hv | 6, _, hv => exact hv
  go_wp2_with (first | (((with_reducible show wpList _ _ _ (⟨_, .store _ _ _, _, _, _, _⟩ :: _) _ _); refine wpList_store_fld (by rfl) _ _ _ (by rfl) _ _ (by rfl) _ (by rfl) _ _ hR6 ?_ ?_ (by rfl) (by rfl) ?_; (next => first | omega | ((try simp) <;> omega)); (next => kernel_rfl); intro w7 hR7 hU7); replace hR7 : Blk w7 (w.heap.size + 1) 78 (resArr 0 (.slice A3 fs.length cp3) Are.ord0 0 0) := hR7; have hE7 : Blk w7 w.heap.size 80 e.arr := Blk.upd HEA.out.E (by omega) hU7; have hmid7 : w7.rangeAt w.heap.size 0 e.o.cells := fun j v hv => (World.cell?_of_block (hU7.block w.heap.size (by omega))).trans (hmid6 j v hv)) | (refine wpList_load_mid (by rfl) _ _ (by rfl) _ _ (by rfl) _ _ hmid7 Try.underlying43 rfl (by kernel_rfl) ?_) | ((with_reducible show wpList _ _ _ (⟨_, .store 43 _ _, _, _, _, _⟩ :: _) _ _); refine wpList_store_put (by rfl) _ _ _ (by rfl) _ _ _ (by rfl) (by rfl) _ _ hR7 ?_ ?_ ?_ ?_; (next => kernel_rfl); (next => exact (by decide : 2 + 7 ≤ 11)); (next => exact Are.ordArr_one e.o); intro w8 hR8 hU8) | fail)
  replace hR8 : Blk w8 (w.heap.size + 1) 78 (resArr 0 (.slice A3 fs.length cp3) e.o 0 0) := hR8
  have hE8 := hE7.upd (by omega) hU8
  have hP8 : Blk w8 pb 65 #[.slice A3 fs.length cp3, .int .i64 left, .int .i64 stop] := (HEA.out.P.upd hne hU7).upd hne hU8
  have HEB := Lib.hid ((HEA.out.toEb.upd hU7).upd hU8)
  clear hR6 p0 hmid6 hmid7 hR7 hE7 hU7 hU8 HEA
  refine wp_region_T (S := S9 w pb e A3 fs.length cp3 left stop) 10 (by kernel_rfl) ?_
  have hb89 : Below w8.heap.size w8 w8.drew := (Below.refl _ _).drew
  have hR9 : Blk w8.drew (w.heap.size + 1) 78 (resArr 0 (.slice A3 fs.length cp3) e.o 0 0) := hR8.drew
  have hS : S9 w pb e A3 fs.length cp3 left stop w8.drew := ⟨(hP8.drew).cell 1, hP8.drew, hE8.drew⟩
  generalize w8.drew = w9 at *
  (refine T_take (i := 2) rfl (by kernel_rfl) (fun _ _ _ _ h => h) hS ?_; apply Exists.intro; refine ⟨.inl ⟨by rfl, fun W hW => ?_⟩, ?_⟩; (next => (obtain ⟨hs1, hs2⟩ := hW; go_simp; first | done | rfl)); simp only [Act.put, List.setIfInBounds_toArray, List.set_cons_zero, List.set_cons_succ])
  (refine T_take (i := 3) rfl (by kernel_rfl) (fun _ _ _ _ h => h) hS ?_; apply Exists.intro; refine ⟨.inl ⟨by rfl, fun W hW => ?_⟩, ?_⟩; (next => (obtain ⟨hs1, hs2⟩ := hW; go_simp; first | done | rfl)); simp only [Act.put, List.setIfInBounds_toArray, List.set_cons_zero, List.set_cons_succ])
  (refine T_take (i := 0) rfl (by kernel_rfl) (fun _ _ _ _ h => h) hS ?_; refine ⟨_, y_load_blk 80 _ rfl (by rfl) w.heap.size (by rfl) 80 e.arr _ (fun W h => h.2.2) Try.underlying80 rfl (by kernel_rfl), ?_⟩; simp only [Act.put, List.setIfInBounds_toArray, List.set_cons_zero, List.set_cons_succ])
  refine T_all [1] (by kernel_rfl) (by decide) ?_
  intro j hj
  simp only [List.mem_cons, or_false, List.not_mem_nil] at hj
  subst hj
  refine T_op rfl (by rfl) ?_
  refine wp_enterE (ops := #[]) (F := 86) (args := #[.agg e.arr]) ?_ ?_
  (next => first | (go_simp; done) | (go_simp; rfl))
  refine (HY.out _).mono ?_
  rintro x w10 ⟨rfl, hb10⟩
  have hS10 : S9 w pb e A3 fs.length cp3 left stop w10 := ⟨(hS.2.1.ext hb10).cell 1, hS.2.1.ext hb10, hS.2.2.ext hb10⟩
  have hR10 := hR9.ext hb10
  refine ⟨_, rfl, .inr hS10, ?_⟩
  simp only [Act.put, List.setIfInBounds_toArray, List.set_cons_zero, List.set_cons_succ]
  clear hS
  have hS := hS10
  (refine T_take (i := 4) rfl (by kernel_rfl) (fun _ _ _ _ h => h) hS ?_; apply Exists.intro; refine ⟨.inl ⟨by rfl, fun W hW => ?_⟩, ?_⟩; (next => (obtain ⟨hs1, hs2⟩ := hW; go_simp; first | done | rfl)); simp only [Act.put, List.setIfInBounds_toArray, List.set_cons_zero, List.set_cons_succ])
  (refine T_take (i := 5) rfl (by kernel_rfl) (fun _ _ _ _ h => h) hS ?_; apply Exists.intro; refine ⟨.inl ⟨by rfl, fun W hW => ?_⟩, ?_⟩; (next => (obtain ⟨hs1, hs2⟩ := hW; go_simp; first | done | rfl)); simp only [Act.put, List.setIfInBounds_toArray, List.set_cons_zero, List.set_cons_succ])
  refine T_all [6] (by kernel_rfl) (by decide) ?_
  intro j hj
  simp only [List.mem_cons, or_false, List.not_mem_nil] at hj
  subst hj
  refine T_op rfl (by rfl) ?_
  refine wp_store_fld _ _ _ (by rfl) (w.heap.size + 1) 5 (by rfl) (.int .i64 (edgeF e)) (by rfl) _ _ hR10 (by simp) (by kernel_rfl) rfl rfl ?_
  intro w11 hR11 hU11
  replace hR11 : Blk w11 (w.heap.size + 1) 78 (resArr 0 (.slice A3 fs.length cp3) (restO e e.o.qty) 0 0) := hR11
  have hP11 := hS10.2.1.upd hne hU11
  have hE11 := hS10.2.2.upd (by omega) hU11
  clear hS
  have hS : S9 w pb e A3 fs.length cp3 left stop w11 := ⟨hP11.cell 1, hP11, hE11⟩
  refine ⟨.inr hS, ?_⟩
  simp only [Act.put]
  (refine T_take (i := 7) rfl (by kernel_rfl) (fun _ _ _ _ h => h) hS ?_; apply Exists.intro; refine ⟨.inl ⟨by rfl, fun W hW => ?_⟩, ?_⟩; (next => (obtain ⟨hs1, hs2⟩ := hW; go_simp; first | done | rfl)); simp only [Act.put, List.setIfInBounds_toArray, List.set_cons_zero, List.set_cons_succ])
  (refine T_take (i := 8) rfl (by kernel_rfl) (fun _ _ _ _ h => h) hS ?_; apply Exists.intro; refine ⟨.inl ⟨by rfl, fun W hW => ?_⟩, ?_⟩; (next => (obtain ⟨hs1, hs2⟩ := hW; go_simp; first | done | rfl)); simp only [Act.put, List.setIfInBounds_toArray, List.set_cons_zero, List.set_cons_succ])
  refine T_all [9] (by kernel_rfl) (by decide) ?_
  intro j hj
  simp only [List.mem_cons, or_false, List.not_mem_nil] at hj
  subst hj
  refine T_op rfl (by rfl) ?_
  refine wp_store_fld _ _ _ (by rfl) (w.heap.size + 1) 6 (by rfl) (.int .i64 left) (by rfl) _ _ hR11 (by simp) (by kernel_rfl) rfl rfl ?_
  intro w12 hR12 hU12
  replace hR12 : Blk w12 (w.heap.size + 1) 78 (resArr 0 (.slice A3 fs.length cp3) (restO e left) 0 0) := hR12
  have hP12 := hP11.upd hne hU12
  have hE12 := hE11.upd (by omega) hU12
  refine ⟨.inr ⟨hP12.cell 1, hP12, hE12⟩, ?_⟩
  simp only [Act.put]
  refine T_done (by kernel_rfl) ?_
  have HE12 := Lib.hid ((((HEB.out.ext hb89).ext hb10).upd hU11).upd hU12)
  have hmid : w12.rangeAt (w.heap.size + 1) 2 (restO e left).cells := fun j v hv => by
    rw [hR12.cell]
    have hj : j < 7 := (List.getElem?_eq_some_iff.1 hv).1
    match j, hj, hv with
    | 0, _, hv | 1, _, hv | 2, _, hv | 3, _, hv | 4, _, hv | 5, _, hv | 6, _, hv => exact hv
  have HAD := Lib.hid (Bk.add_any HE12.out.bs (restO e left) hid (by have := HK.out; omega))
  have HR12 := Lib.hid hR12
  have hl12 := hR12.lt
  clear HEB hb89 hb10 hU11 hU12 hP12 hE12 hP11 hE11 hR11 hS hS10 hR10 hR9 hR8 hE8 hP8 hR12
  go_wp2_with (first | (refine wpList_load_mid (by rfl) _ _ (by rfl) _ _ (by rfl) _ _ hmid Try.underlying43 rfl (by kernel_rfl) ?_) | fail)
  refine HAD.out.mono ?_
  rintro x w13 ⟨rfl, c13, ss13, B13, hos13, hs13⟩
  have hR13 := hs13.blk HR12.out HE12.out.nine.1
  have HE13 := Lib.hid (HE12.out.step B13 (hos13.trans (by rw [HE12.out.os])) hs13 hl12)
  clear HAD B13 hos13 hs13 HE12 HR12 hmid hl12
  go_wp2_with (first | ((with_reducible show wpList _ _ _ (⟨_, .load 78 _, _, _, _, _⟩ :: _) _ _); refine wpList_load_ho 78 _ (by rfl) (by rfl) ?_ (.pointer (some ⟨_, 0, none⟩)) (by rfl) ?_ _ Try.underlying78 rfl ?_ ?_; rotate_left; (next => (repeat (first | (with_reducible refine BlkAt.new _ _ _ _ ?_; ((try simp) <;> omega)) | (with_reducible assumption) | (with_reducible refine Blk.at (t := ?_) ?_; rotate_left; with_reducible assumption) | with_reducible refine BlkAt.alloc ?_ _ | with_reducible refine BlkAt.drew ?_ | (with_reducible refine BlkAt.setSame ?_ _ _) | (with_reducible refine BlkAt.setCell ?_ ?_ _; rotate_left; ((try simp) <;> omega)) | (with_reducible refine BlkAt.ext (w := ?_) ?_ ?_; rotate_left 2; (with_reducible assumption)) | fail))); (next => kernel_rfl)) | ((with_reducible show wpList _ _ _ (⟨_, .store 78 _ _, _, _, _, _⟩ :: _) _ _); refine wpList_store_blk (by rfl) 78 _ _ (by rfl) _ _ (by rfl) (by rfl) _ _ hR13 (by kernel_rfl) (by rfl) ?_ ?_; (next => exact res_one ..); intro w14 hR14 hU14) | fail)
  have EB := HE13.out.upd hU14
  exact bodyPost_ret (results_res rfl _ _ _ _ (by rfl) hR14 rfl) rfl ⟨A3, cp3, c13, ss13, rfl, EB.rd, fun a q => by have := EB.far a q; omega, EB.bs, EB.os, EB.cs⟩
theorem enter_any (S : Bs w c b N most k ss) (e : En) (hid : Idx.Wf e.o.id) (hp : I64 e.o.price) (hq : e.o.qty ≤ 9223372036854775807) (hk : k + (mkP (tkE e) (osOf ss)).1.length + 1 < 1000) :
    Calls Try.prog 31 #[.pointer (some ⟨b, 0, none⟩), .agg e.arr] w (EnPost w c b N most (k + (mkP (tkE e) (osOf ss)).1.length + 1) (enterF N most (osOf ss) e)) := by
  by_cases hc : checkF N most (osOf ss) e = 0
  · cases hr : restsF (osOf ss) e (mkP (tkE e) (osOf ss)) with
    | false => exact enter_gone S e hid hp hq hc hr hk
    | true => exact enter_rest S e hid hp hq hc hr hk
  · refine (enter_bad S e hid hp hq hc).mono ?_
    rintro x w' ⟨A, cap, c', ss', h1, h2, h3, h4, h5, h6⟩
    refine ⟨A, cap, c', ss', h1, h2, h3, ?_, h5, h6⟩
    have := Sw.Bs.monoK ((mkP (tkE e) (osOf ss)).1.length + 1) h4 (by omega)
    rwa [← Nat.add_assoc] at this
end
end Ma
end Go.Proofs.Ytgaialcbpglhaaa
namespace Go.Proofs.Ytgaialcbpglhaaa
set_option linter.unusedVariables false
open Go.RowKit
namespace Ma
set_option maxHeartbeats 4000000
set_option maxRecDepth 10000
open Bk (bet Bs osOf srt Sl)
open Sw (Fl mkP)
theorem built_en (o : Ord) (t lo hi s : Int) : Try.prog.built 80 [(0, .agg o.arr), (1, .int .i64 t), (2, .agg #[.int .i64 lo, .int .i64 hi]), (3, .int .i64 s)] = some (En.mk o t lo hi s).arr := by kernel_rfl
theorem results_en {fn : Func} {p : Tmp} (h : fn.results = #[.cell p 80]) (tmps : Array Value) (w : World) (g : Nat) (cs : Array Value) (hp : tmps.getD p undef = .pointer (some ⟨g, 0, none⟩)) (hb : Blk w g 80 cs) (h3 : cs.size = 11) :
    (results fn tmps).run Try.prog w = .ok (.agg cs) w :=
  results_cell_row h _ _ _ _ _ _ _ hp hb Try.underlying80 rfl (by rw [h3]; kernel_rfl)
theorem en_one (e : En) : e.arr.all (·.oneCell') = true := by simp [En.arr, En.cells, Ord.cells, Value.oneCell']
theorem en_rng {w : World} {g : Nat} {t : TypeId} {e : En} (h : Blk w g t e.arr) : w.rangeAt g 0 e.o.cells ∧ w.rangeAt g 8 [.int .i64 e.lo, .int .i64 e.hi] := by
  refine ⟨fun j v hv => ?_, fun j v hv => ?_⟩
  · rw [h.cell, Nat.zero_add]
    have hj : j < 7 := (List.getElem?_eq_some_iff.1 hv).1
    match j, hj, hv with
    | 0, _, hv | 1, _, hv | 2, _, hv | 3, _, hv | 4, _, hv | 5, _, hv | 6, _, hv => exact hv
  · rw [h.cell]
    match j, hv with
    | 0, hv => exact hv
    | 1, hv => exact hv
    | n + 2, hv => simp at hv
theorem own_any (e : En) (w : World) : Calls Try.prog 32 #[.agg e.arr] w fun x w' => x = .returned (.agg e.arr) ∧ Below w.heap.size w w' := by
  obtain ⟨w0, hw0⟩ : ∃ w0, w0 = (w.alloc (.cells e.arr 76)).alloc (.cells (En.mk Are.ord0 0 0 0 0).arr 80) := ⟨_, rfl⟩
  have hE0 : Blk w0 w.heap.size 76 e.arr := by rw [hw0]; exact (Blk.new w _ _ _ rfl).alloc _
  have hR0 : Blk w0 (w.heap.size + 1) 80 (En.mk Are.ord0 0 0 0 0).arr := by rw [hw0]; exact Blk.new _ _ _ _ (sz_alloc _ _)
  have hb0 : Below w.heap.size w w0 := by rw [hw0]; (repeat (first | with_reducible exact Below.refl _ _ | (with_reducible assumption) | (with_reducible refine below_alloc ?_ _) | (with_reducible refine below_ext (w1 := ?_) ?_ ?_; rotate_left 2; (with_reducible assumption)) | (with_reducible refine Below.setCell ?_ ?_ _; rotate_left; ((try simp) <;> omega)) | (with_reducible refine Below.drew ?_) | (with_reducible refine below_drewN ?_ _) | fail))
  obtain ⟨hm1, hm2⟩ := en_rng hE0
  rw [hw0] at hE0 hR0 hb0 hm1 hm2
  clear hw0
  go_enter Try.func32, Try.ntmps32
  go_wp2_with (first | (refine wpList_load_mid (by rfl) _ _ (by rfl) _ _ (by rfl) _ _ hm1 Try.underlying43 rfl (by kernel_rfl) ?_) | (refine wpList_load_mid (by rfl) _ _ (by rfl) _ _ (by rfl) _ _ hm2 Try.underlying60 rfl (by kernel_rfl) ?_) | ((with_reducible show wpList _ _ _ (⟨_, .build _ _, _, _, _, _⟩ :: _) _ _); refine wpList_build_is (by rfl) _ _ (by rfl) ?_ ?_ ?_; rotate_left; (next => simp only [List.map_toArray, List.map_cons, List.map_nil, go_sem]; exact built_en ..)) | ((with_reducible show wpList _ _ _ (⟨_, .store 80 _ _, _, _, _, _⟩ :: _) _ _); refine wpList_store_blk (by rfl) 80 _ _ (by rfl) _ _ (by rfl) (by rfl) _ _ hR0 (by kernel_rfl) (by rfl) ?_ ?_; (next => exact en_one ..); intro w3 hR3 hU3) | fail)
  exact bodyPost_ret (results_en rfl _ _ _ _ (by rfl) hR3 rfl) rfl ⟨rfl, below_upd hb0 (by omega) hU3⟩
def e1 : En := ⟨⟨1, 0, 1, 10, 5, 0, 0⟩, 1, 1, 100, 0⟩
def e2 : En := ⟨⟨2, 0, 0, 10, 8, 0, 0⟩, 1, 1, 100, 0⟩
theorem al1 : enterF 5 5 [] e1 = (⟨0, [], ⟨1, 0, 1, 10, 5, 0, 0⟩, 0, 0⟩, [⟨1, 0, 1, 10, 5, 0, 0⟩]) := by rfl
theorem al2 : enterF 5 5 [⟨1, 0, 1, 10, 5, 0, 0⟩] e2 = (⟨0, [⟨1, 10, 5, false⟩], ⟨2, 0, 0, 10, 3, 0, 0⟩, 0, 0⟩, [⟨2, 0, 0, 10, 3, 0, 0⟩]) := by rfl
theorem al_len1 : (mkP (tkE e1) []).1.length = 0 := by rfl
theorem al_len2 : (mkP (tkE e2) [⟨1, 0, 1, 10, 5, 0, 0⟩]).1.length = 1 := by rfl
theorem alive_any (w : World) : Calls Try.prog 30 #[] w fun x w' => x = .returned (.bool true) ∧ Below w.heap.size w w' := by
  have HN := Lib.hid (Bk.new_ok 5 5 w (by omega) (by omega))
  go_enter Try.func30, Try.ntmps30
  go_wp2_with fail
  refine HN.out.mono ?_
  rintro x w1 ⟨b, c, rfl, B1, hb1, h9⟩
  have HB1 := Lib.hid B1
  have H9 := Lib.hid h9
  clear B1 h9 HN
  go_wp2_with fail
  have hN2 : Blk (w1.alloc (.cells #[.int .i64 1, .int .i64 100] 60)) w1.heap.size 60 #[.int .i64 1, .int .i64 100] := Blk.new _ _ _ _ rfl
  have hbn : Below w1.heap.size w1 (w1.alloc (.cells #[.int .i64 1, .int .i64 100] 60)) := by (repeat (first | with_reducible exact Below.refl _ _ | (with_reducible assumption) | (with_reducible refine below_alloc ?_ _) | (with_reducible refine below_ext (w1 := ?_) ?_ ?_; rotate_left 2; (with_reducible assumption)) | (with_reducible refine Below.setCell ?_ ?_ _; rotate_left; ((try simp) <;> omega)) | (with_reducible refine Below.drew ?_) | (with_reducible refine below_drewN ?_ _) | fail))
  have h9b : c w1.heap.size = 9 := Bk.Bs.out14 HB1.out (Nat.le_refl _)
  refine (enter_any (HB1.out.ext hbn) e1 (by rfl) ⟨by decide, by decide⟩ (by decide) (by rw [show osOf ([] : List Sl) = [] from rfl, al_len1]; decide)).mono ?_
  rw [show osOf ([] : List Sl) = [] from rfl, al1, al_len1]
  rintro x w3 ⟨A3, cp3, c3, ss3, rfl, _, _, B3, hos3, hs3⟩
  have hN3 := hs3.blk hN2 h9b
  have h93 := hs3.nine hN2.lt h9b
  have hB3 : Below w.heap.size w w3 := (below_ext hb1 hbn).trans (hs3.below (below_ext hb1 hbn).size H9.out)
  have H93 := Lib.hid (fun q (hq : q < w.heap.size) => (hs3.old q (by have := (below_ext hb1 hbn).size; omega)).trans (H9.out q hq))
  have hX3 : Blk (w3.alloc (.cells (resArr 0 (.slice none 0 0) Are.ord0 0 0) 78)) w3.heap.size 78 (resArr 0 (.slice none 0 0) Are.ord0 0 0) := Blk.new _ _ _ _ rfl
  have HB3 := Lib.hid B3
  have HOS3 := Lib.hid hos3
  clear B3 hos3 hs3 hN2 hbn h9b hb1 HB1 H9
  have n0 : w3.cell? ⟨w1.heap.size, 0, none⟩ = some (.int .i64 1) := hN3.cell 0
  have n1 : w3.cell? ⟨w1.heap.size, 1, none⟩ = some (.int .i64 100) := hN3.cell 1
  go_wp2_with (first | (((with_reducible show wpList _ _ _ (⟨_, .store 78 _ _, _, _, _, _⟩ :: _) _ _); refine wpList_store_blk (by rfl) 78 _ _ (by rfl) _ _ (by rfl) (by rfl) _ _ hX3 (by kernel_rfl) (by rfl) ?_ ?_; (next => exact res_one ..); intro w4 hX4 hU4); have hb4 : Below w3.heap.size w3 w4 := below_upd (by (repeat (first | with_reducible exact Below.refl _ _ | (with_reducible assumption) | (with_reducible refine below_alloc ?_ _) | (with_reducible refine below_ext (w1 := ?_) ?_ ?_; rotate_left 2; (with_reducible assumption)) | (with_reducible refine Below.setCell ?_ ?_ _; rotate_left; ((try simp) <;> omega)) | (with_reducible refine Below.drew ?_) | (with_reducible refine below_drewN ?_ _) | fail))) (Nat.le_refl _) hU4; have hN4 := Blk.ext hN3 hb4) | ((with_reducible show wpList _ _ _ (⟨_, .load 60 _, _, _, _, _⟩ :: _) _ _); refine wpList_load_ho 60 _ (by rfl) (by rfl) ?_ (.pointer (some ⟨_, 0, none⟩)) (by rfl) ?_ _ Try.underlying60 rfl ?_ ?_; rotate_left; (next => (repeat (first | (with_reducible refine BlkAt.new _ _ _ _ ?_; ((try simp) <;> omega)) | (with_reducible assumption) | (with_reducible refine Blk.at (t := ?_) ?_; rotate_left; with_reducible assumption) | with_reducible refine BlkAt.alloc ?_ _ | with_reducible refine BlkAt.drew ?_ | (with_reducible refine BlkAt.setSame ?_ _ _) | (with_reducible refine BlkAt.setCell ?_ ?_ _; rotate_left; ((try simp) <;> omega)) | (with_reducible refine BlkAt.ext (w := ?_) ?_ ?_; rotate_left 2; (with_reducible assumption)) | fail))); (next => kernel_rfl)) | fail)
  have hX4' : Blk w4 w3.heap.size 78 (resArr 0 (.slice A3 0 cp3) ⟨1, 0, 1, 10, 5, 0, 0⟩ 0 0) := hX4
  have h94 : c3 w3.heap.size = 9 := Bk.Bs.out14 HB3.out (Nat.le_refl _)
  refine (enter_any (HB3.out.ext hb4) e2 (by rfl) ⟨by decide, by decide⟩ (by decide) (by rw [HOS3.out, al_len2]; decide)).mono ?_
  rw [HOS3.out, al2, al_len2]
  rintro x w5 ⟨A5, cp5, c5, ss5, rfl, hrd5, _, B5, hos5, hs5⟩
  have hX5 := hs5.blk hX4' h94
  have hB4 := below_ext hB3 hb4
  have hB5 : Below w.heap.size w w5 := hB4.trans (hs5.below hB4.size H93.out)
  have hY5 : Blk (w5.alloc (.cells (resArr 0 (.slice none 0 0) Are.ord0 0 0) 78)) w5.heap.size 78 (resArr 0 (.slice none 0 0) Are.ord0 0 0) := Blk.new _ _ _ _ rfl
  obtain ⟨ab, ao, rfl, hmid⟩ := Bk.rd_rngB (c := Fl.cells) (xs := [⟨1, 10, 5, false⟩]) hrd5 (i := 0) (by decide)
  clear B5 hos5 hs5 hX4 hX4' h94 hb4 HB3 HOS3 H93 hN4 hN3 n0 n1 hU4 h93 hX3 hrd5
  have l5 := hX5.lt
  go_wp2_with (first | (((with_reducible show wpList _ _ _ (⟨_, .store 78 _ _, _, _, _, _⟩ :: _) _ _); refine wpList_store_blk (by rfl) 78 _ _ (by rfl) _ _ (by rfl) (by rfl) _ _ hY5 (by kernel_rfl) (by rfl) ?_ ?_; (next => exact res_one ..); intro w6 hY6 hU6); have hb6 : Below w5.heap.size w5 w6 := below_upd (by (repeat (first | with_reducible exact Below.refl _ _ | (with_reducible assumption) | (with_reducible refine below_alloc ?_ _) | (with_reducible refine below_ext (w1 := ?_) ?_ ?_; rotate_left 2; (with_reducible assumption)) | (with_reducible refine Below.setCell ?_ ?_ _; rotate_left; ((try simp) <;> omega)) | (with_reducible refine Below.drew ?_) | (with_reducible refine below_drewN ?_ _) | fail))) (Nat.le_refl _) hU6; have hX6 := hX5.ext hb6; have x0 : w6.cell? ⟨w3.heap.size, 0, none⟩ = some (.int .i64 0) := hX6.cell 0; have x6 : w6.cell? ⟨w3.heap.size, 6, none⟩ = some (.int .i64 5) := hX6.cell 6; have y0 : w6.cell? ⟨w5.heap.size, 0, none⟩ = some (.int .i64 0) := Blk.cell hY6 0; have y1 : w6.cell? ⟨w5.heap.size, 1, none⟩ = some (.slice (some ⟨ab, ao, none⟩) 1 cp5) := Blk.cell hY6 1; have y5 : w6.cell? ⟨w5.heap.size, 5, none⟩ = some (.int .i64 10) := Blk.cell hY6 5; have y6 : w6.cell? ⟨w5.heap.size, 6, none⟩ = some (.int .i64 3) := Blk.cell hY6 6; have q2 : w6.cell? ⟨ab, ao + 2, none⟩ = some (.int .i64 5) := rangeAt_below hmid hb6 2 _ rfl) | fail)
  go_ret
  exact ⟨rfl, below_ext hB5 hb6⟩
end Ma
end Go.Proofs.Ytgaialcbpglhaaa
namespace Go.Proofs.Ytgaialcbpglhaaa
set_option linter.unusedVariables false
open Go.RowKit
namespace Ma
set_option maxHeartbeats 100000000
set_option maxRecDepth 10000
open Bk (bet Bs osOf srt Sl fndI crossO okO Cs)
open Sw (Fl trd mkP)
theorem built_pl (A : Option Addr) (n c : Nat) : Try.prog.built 65 [(0, .slice A n c)] = some #[.slice A n c, .int .i64 0, .int .i64 0] := by kernel_rfl
theorem wpList_ne_same {ops : Array Oper} {rest : List Oper} {o : Oper} {a : Act} {w : World} {Q : Exit → Act → World → Prop} (hgd : Region.wanted o (yielded ops a.tmps) = true) (x y : Operand) (u : TypeId) (ho : o.op = .binOp .neq 43 x y u)
    (p : Ord) (hx : a.eval x = .agg p.arr) (hy : a.eval y = .agg p.arr) (h : wpList Try.prog ops Q rest (a.put o.dst (.bool false)) w) : wpList Try.prog ops Q (o :: rest) a w :=
  Bk.wpList_ne_ord hgd x y u ho p p hx hy (by rw [ordEq_refl]; exact h)
theorem res_rng {w : World} {g : Nat} {t : TypeId} {f gn y : Int} {v : Value} {o : Ord} (h : Blk w g t (resArr f v o gn y)) : w.rangeAt g 2 o.cells := fun j v hv => by
  rw [h.cell]
  have hj : j < 7 := (List.getElem?_eq_some_iff.1 hv).1
  match j, hj, hv with
  | 0, _, hv | 1, _, hv | 2, _, hv | 3, _, hv | 4, _, hv | 5, _, hv | 6, _, hv => exact hv
theorem ord_rng {w : World} {g : Nat} {t : TypeId} {o : Ord} (h : Blk w g t o.arr) : w.rangeAt g 0 o.cells := fun j v hv => by
  rw [h.cell]
  have hj : j < 7 := (List.getElem?_eq_some_iff.1 hv).1
  match j, hj, hv with
  | 0, _, hv | 1, _, hv | 2, _, hv | 3, _, hv | 4, _, hv | 5, _, hv | 6, _, hv => exact hv
/-- What holds behind i entries. -/
structure Wk (w wr : World) (c : Nat → Nat) (b k i : Nat) (ss : List Sl) : Prop where
  bs : Bs wr c b 30 10 k ss
  cnt : k + (osOf ss).length ≤ 3 * i
  unc : Unc (osOf ss)
  nine : ∀ q, q < w.heap.size → c q = 9
  below : Below w.heap.size w wr
theorem Wk.ext {w wr W : World} {c : Nat → Nat} {b k i : Nat} {ss : List Sl} (h : Wk w wr c b k i ss) (hb : Below wr.heap.size wr W) : Wk w W c b k i ss := ⟨h.bs.ext hb, h.cnt, h.unc, h.nine, below_ext h.below hb⟩
theorem Wk.step {w wr W : World} {c c' : Nat → Nat} {b k k' i : Nat} {ss ss' : List Sl} (h : Wk w wr c b k i ss) (B : Bs W c' b 30 10 k' ss') (hs : Cs c c' wr W) (hc : k' + (osOf ss').length ≤ 3 * (i + 1)) (hu : Unc (osOf ss')) : Wk w W c' b k' (i + 1) ss' :=
  ⟨B, hc, hu, fun q hq => (hs.old q (Nat.lt_of_lt_of_le hq h.below.size)).trans (h.nine q hq), h.below.trans (hs.below h.below.size h.nine)⟩
theorem ent_fills {N most : Nat} {os : List Ord} {e : En} (hc : checkF N most os e = 0) : (enterF N most os e).1.fills = (mkP (tkE e) os).1 := by
  rcases ent_two hc with ⟨_, h⟩ | ⟨_, h⟩ <;> rw [h]
theorem keeps_main (l : List En) (hwf : ∀ e ∈ l, Idx.Wf e.o.id ∧ I64 e.o.price ∧ I64 e.o.qty) (A : Option Addr) (cap : Nat) (w : World) (hr : Rd w 11 A (l.map En.cells)) (hl : l.length ≤ 40) :
    Calls Try.prog 8 #[.slice A l.length cap] w fun x w' => x = .returned (.bool true) ∧ Below w.heap.size w w' := by
  have h41 : ¬ (40 : Int) < l.length := by omega
  have HN := Lib.hid (Bk.new_ok 30 10 w (by omega) (by omega))
  have HR := Lib.hid hr
  have HWF := Lib.hid hwf
  clear hr hwf
  go_enter Try.func8, Try.ntmps8
  go_wp2_with fail
  refine HN.out.mono ?_
  rintro x w1 ⟨b, c, rfl, B1, hb1, h9⟩
  have W1 : Hid (Wk w w1 c b 0 0 []) := Lib.hid ⟨B1, Nat.le_refl _, (fun x hx => by cases hx), h9, hb1⟩
  clear B1 hb1 h9 HN
  go_wp2_with fail
  go_loopw [5] (fun iv wr => ∃ (i : Nat) (c : Nat → Nat) (k : Nat) (ss : List Sl), iv = .int .i64 i ∧ i ≤ l.length ∧ Hid (Wk w wr c b k i ss)) (fun iv _ => l.length - (intOf iv).toNat)
  case atStart => exact ⟨0, c, 0, [], rfl, Nat.zero_le _, W1⟩
  case round =>
    obtain ⟨i, c, k, ss, rfl, hi, HW⟩ := hrel
    clear W1
    by_cases hlt : i < l.length
    · obtain ⟨ab, ao, rfl, hmid⟩ := Bk.rd_rngB (HR.out.below HW.out.below) hlt
      obtain ⟨hid, hp, hq⟩ := HWF.out _ (List.getElem_mem hlt)
      obtain ⟨e, he⟩ : ∃ e, e = l[i] := ⟨_, rfl⟩
      rw [← he] at hmid hid hp hq
      have HID := Lib.hid (And.intro hid (And.intro hp hq))
      have HLT := Lib.hid hlt
      have HE := Lib.hid he
      have HLN := Lib.hid (Bk.len_any HW.out.bs)
      have HO := Lib.hid (fun W => own_any e W)
      have hlo := Bk.Bs.fewB HW.out.bs
      clear hid hp hq he
      obtain ⟨os, hos⟩ : ∃ os, os = osOf ss := ⟨_, rfl⟩
      rw [← hos] at HLN hlo
      have HOS := Lib.hid hos
      clear hos
      go_wp2_with fail
      refine HLN.out.mono ?_
      rintro x w2 ⟨rfl, hb2⟩
      have hmid2 := rangeAt_below hmid hb2
      go_wp2_with (first | (refine wpList_load_mid (by rfl) _ _ (by rfl) _ _ (by rfl) _ _ hmid2 Try.underlying76 rfl (by kernel_rfl) ?_) | (go_at_call 32; refine (HO.out _).mono ?_; rintro x w3 ⟨rfl, hb3⟩) | fail)
      have hb23 := below_ext hb2 hb3
      have HW3 := Lib.hid (HW.out.ext hb23)
      clear hmid hmid2 hb2 hb3 hb23 HLN HO HW
      by_cases hc : checkF 30 10 os e = 0
      · have KP := keeps_ok (N := 30) (most := 10) (os := os) (e := e) (fun o ho => Sw.Bs.okk HW3.out.bs o (by rw [← HOS.out]; exact ho)) (by rw [HOS.out]; exact Bk.Bs.ids HW3.out.bs) (by rw [HOS.out]; exact HW3.out.unc) hc
        have hcnt := HW3.out.cnt
        have hfl := ent_fills hc
        have hf0 : (enterF 30 10 os e).1.fault = 0 := by rw [enter_fault]; exact hc
        have hmk := mkP_len (tkE e) os
        have HEN := enter_any HW3.out.bs e HID.out.1 HID.out.2.1 HID.out.2.2.2 (by rw [← HOS.out] at hcnt ⊢; omega)
        rw [← HOS.out, ← hfl] at HEN
        have hfew := KP.few
        have hlen := KP.len
        rw [← HOS.out] at hcnt
        clear hc hfl hmk
        obtain ⟨⟨r, os'⟩, hr⟩ : ∃ r, r = enterF 30 10 os e := ⟨_, rfl⟩
        rw [← hr] at KP HEN hf0 hfew hlen
        clear hr
        simp only at KP hf0 hfew hlen
        have HEN := Lib.hid HEN
        have HKP := Lib.hid KP
        clear KP
        refine HEN.out.mono ?_
        rintro x w4 ⟨A4, cp4, c4, ss4, rfl, hrd4, hf4, B4, hos4, hs4⟩
        simp only at hrd4 hos4
        have W4 := Lib.hid (HW3.out.step B4 hs4 (by show k + r.fills.length + 1 + (osOf ss4).length ≤ 3 * (i + 1); rw [hos4]; omega) (by rw [hos4]; exact HKP.out.unc))
        have HCR : Hid (∀ W, Below w4.heap.size w4 W → Calls Try.prog 34 #[.pointer (some ⟨b, 0, none⟩)] W fun e w' => e = .returned (.bool false) ∧ Below W.heap.size W w') := Lib.hid (fun W hW => by
          have h := Bk.crossed_any (W4.out.bs.ext hW)
          rwa [hos4, unc_cross HKP.out.unc] at h)
        have HGT : Hid (∀ W, Below w4.heap.size w4 W → Calls Try.prog 24 #[.pointer (some ⟨b, 0, none⟩), .int .i64 e.o.id] W fun x w' => x = .returned (.tuple #[.agg ((fndI e.o.id os').getD Are.ord0).arr, .bool (fndI e.o.id os').isSome]) ∧ Below W.heap.size W w') := Lib.hid (fun W hW => by
          have h := Bk.bget_any (W4.out.bs.ext hW) (id := e.o.id) HID.out.1
          rwa [hos4] at h)
        rw [HKP.out.fnd] at HGT
        have hf30 : r.fills.length ≤ 1000 := by omega
        have HTR := Lib.hid (fun W (hW : Below w4.heap.size w4 W) => Sw.traded_rd (left := 0) (stop := 0) (cap := cp4) (hrd4.below hW) hf30 HKP.out.pos (Int.le_trans HKP.out.trd.2 (by decide)))
        have HRL := Lib.hid (HR.out.below W4.out.below)
        have hX4 : Blk (w4.alloc (.cells (resArr 0 (.slice none 0 0) Are.ord0 0 0) 78)) w4.heap.size 78 (resArr 0 (.slice none 0 0) Are.ord0 0 0) := Blk.new _ _ _ _ rfl
        clear B4 hs4 hos4 hrd4 hf4 HEN HW3 hcnt hfew hlen HOS hlo
        rw [hf0]
        simp only
        go_upto_region 16 with (first | (((with_reducible show wpList _ _ _ (⟨_, .store 78 _ _, _, _, _, _⟩ :: _) _ _); refine wpList_store_blk (by rfl) 78 _ _ (by rfl) _ _ (by rfl) (by rfl) _ _ hX4 (by kernel_rfl) (by rfl) ?_ ?_; (next => exact res_one ..); intro w5 hX5 hU5); have hb5 : Below w4.heap.size w4 w5 := below_upd (by (repeat (first | with_reducible exact Below.refl _ _ | (with_reducible assumption) | (with_reducible refine below_alloc ?_ _) | (with_reducible refine below_ext (w1 := ?_) ?_ ?_; rotate_left 2; (with_reducible assumption)) | (with_reducible refine Below.setCell ?_ ?_ _; rotate_left; ((try simp) <;> omega)) | (with_reducible refine Below.drew ?_) | (with_reducible refine below_drewN ?_ _) | fail))) (Nat.le_refl _) hU5) | (go_at_call 34; refine (HCR.out _ hb5).mono ?_; rintro x w6 ⟨rfl, hb6⟩; have hX6 := hX5.ext hb6; have x0 : w6.cell? ⟨w4.heap.size, 0, none⟩ = some (.int .i64 0) := hX6.cell 0) | fail)
        have hb46 := below_ext hb5 hb6
        obtain ⟨ab', ao', e1, hmid6⟩ := Bk.rd_rngB (HRL.out.below hb46) HLT.out
        injection e1 with e1
        injection e1 with e1 e2
        subst e1 e2
        rw [← HE.out] at hmid6
        have q0 : w6.cell? ⟨ab, ao + i * 11, none⟩ = some (.int .i64 e.o.id) := hmid6 0 _ rfl
        have q4 : w6.cell? ⟨ab, ao + i * 11 + 4, none⟩ = some (.int .i64 e.o.qty) := hmid6 4 _ rfl
        have x1 : w6.cell? ⟨w4.heap.size, 1, none⟩ = some (.slice A4 r.fills.length cp4) := hX6.cell 1
        have x6 : w6.cell? ⟨w4.heap.size, 6, none⟩ = some (.int .i64 r.rest.qty) := hX6.cell 6
        have x9 : w6.cell? ⟨w4.heap.size, 9, none⟩ = some (.int .i64 r.gone) := hX6.cell 9
        have x10 : w6.cell? ⟨w4.heap.size, 10, none⟩ = some (.int .i64 r.why) := hX6.cell 10
        have lX := hX6.lt
        have lA : ab < w6.heap.size := cell_lt q0
        have HX6 := Lib.hid hX6
        have HQ6 := Lib.hid (And.intro q0 hb46)
        clear hmid6 HRL hX6 hX5 hU5 hb5 hb6 x0 q0
        go_cut [102] (fun v wx => v = .bool false ∧ Below w6.heap.size w6 wx)
        case first =>
          have HTR6 := Lib.hid (fun W (hW : Below w6.heap.size w6 W) => HTR.out W (below_ext HQ6.out.2 hW))
          have hsum := HKP.out.sum
          have hr1 := HKP.out.rest
          have hg1 := HKP.out.gone
          have ht1 := HKP.out.trd
          have hone := HKP.out.one
          have hwhy := HKP.out.why
          have s1 : IntKind.i64.wrap (trd r.fills + r.rest.qty) = trd r.fills + r.rest.qty := IntWalk.i64_in _ (by omega)
          have s2 : IntKind.i64.wrap (trd r.fills + r.rest.qty + r.gone) = e.o.qty := by rw [hsum]; exact IntWalk.i64_in _ (by omega)
          have e1 : (i : Int) < (l.length : Int) := by have := HLT.out; omega
          have e2 : (0 : Int) ≤ (i : Int) := by omega
          have HS := Lib.hid hsum
          clear hsum HCR HGT
          generalize trd r.fills = m at *
          by_cases hg : 0 < r.gone
          · have d1 : decide (0 < r.gone) = true := decide_eq_true hg
            have d2 : decide (0 < r.rest.qty) = false := decide_eq_false (fun h => hone ⟨hg, h⟩)
            have d3 : (r.why != 0) = true := by simpa using hwhy.2 hg
            clear hone hwhy hg hr1 hg1 ht1
            refine wp_region_below_lit (by kernel_rfl) (by kernel_rfl) ?_
            repeat (first | (refine q_build (by rfl) _ _ (by rfl) ?_ ?_ ?_; rotate_left; (next => simp only [List.map_toArray, List.map_cons, List.map_nil, go_sem]; exact built_pl ..); (try simp only [Act.put, List.setIfInBounds_toArray, List.set_cons_zero, List.set_cons_succ])) | go_big_quiet_skip | (go_big_quiet_want; go_big_quiet_op; go_big_quiet_on) | (refine q_load_fld (by rfl) _ _ (by rfl) (fun _ h => h) _ _ (by rfl) ?_ ?_ ?_ ?_ ?_ ?_; rotate_left; (next => (repeat (first | (with_reducible refine BlkAt.new _ _ _ _ ?_; ((try simp) <;> omega)) | (with_reducible assumption) | (with_reducible refine Blk.at (t := ?_) ?_; rotate_left; with_reducible assumption) | with_reducible refine BlkAt.alloc ?_ _ | with_reducible refine BlkAt.drew ?_ | (with_reducible refine BlkAt.setSame ?_ _ _) | (with_reducible refine BlkAt.setCell ?_ ?_ _; rotate_left; ((try simp) <;> omega)) | (with_reducible refine BlkAt.ext (w := ?_) ?_ ?_; rotate_left 2; (with_reducible assumption)) | fail))); rotate_left; (next => first | (simp only [go_sem]; rfl) | rfl); (next => kernel_rfl); (try simp only [Act.put, List.setIfInBounds_toArray, List.set_cons_zero, List.set_cons_succ])) | (refine q_rem (by rfl) _ _ _ _ (by rfl) _ _ (by rfl) (by rfl) (by kernel_rfl) (by kernel_rfl) ?_ ?_; (next => omega); (try simp only [Act.put, List.setIfInBounds_toArray, List.set_cons_zero, List.set_cons_succ])) | (refine q_step_ex (by rfl) ?_; apply Exists.intro; refine ⟨fun W hW => ?_, ?_⟩; (next => (have hWc := fun (b o : Nat) (h : b < _) => (Ext.out hW).cell (p := ⟨b, o, none⟩) h); (try have hLK := HLK.out W (Ext.out hW)); go_simp; first | rfl | (go_at_call 27; refine (HTR6.out _ hW.out).mono ?_; rintro x w'' ⟨rfl, hb2⟩; exact ⟨rfl, below_ext hW.out hb2⟩) | fail); (try simp only [Act.put, List.setIfInBounds_toArray, List.set_cons_zero, List.set_cons_succ])) | fail)
            refine wpQuiet_nil ?_
            intro w7 hb7
            go_wp2_with fail
            go_meet
            exact ⟨rfl, hb7⟩
          · have d1 : decide (0 < r.gone) = false := decide_eq_false hg
            have d3 : (r.why != 0) = false := by
              have : ¬ r.why ≠ 0 := fun h => hg (hwhy.1 h)
              simpa using this
            clear hone hwhy hg hr1 hg1 ht1
            refine wp_region_below_lit (by kernel_rfl) (by kernel_rfl) ?_
            repeat (first | (refine q_build (by rfl) _ _ (by rfl) ?_ ?_ ?_; rotate_left; (next => simp only [List.map_toArray, List.map_cons, List.map_nil, go_sem]; exact built_pl ..); (try simp only [Act.put, List.setIfInBounds_toArray, List.set_cons_zero, List.set_cons_succ])) | go_big_quiet_skip | (go_big_quiet_want; go_big_quiet_op; go_big_quiet_on) | (refine q_load_fld (by rfl) _ _ (by rfl) (fun _ h => h) _ _ (by rfl) ?_ ?_ ?_ ?_ ?_ ?_; rotate_left; (next => (repeat (first | (with_reducible refine BlkAt.new _ _ _ _ ?_; ((try simp) <;> omega)) | (with_reducible assumption) | (with_reducible refine Blk.at (t := ?_) ?_; rotate_left; with_reducible assumption) | with_reducible refine BlkAt.alloc ?_ _ | with_reducible refine BlkAt.drew ?_ | (with_reducible refine BlkAt.setSame ?_ _ _) | (with_reducible refine BlkAt.setCell ?_ ?_ _; rotate_left; ((try simp) <;> omega)) | (with_reducible refine BlkAt.ext (w := ?_) ?_ ?_; rotate_left 2; (with_reducible assumption)) | fail))); rotate_left; (next => first | (simp only [go_sem]; rfl) | rfl); (next => kernel_rfl); (try simp only [Act.put, List.setIfInBounds_toArray, List.set_cons_zero, List.set_cons_succ])) | (refine q_rem (by rfl) _ _ _ _ (by rfl) _ _ (by rfl) (by rfl) (by kernel_rfl) (by kernel_rfl) ?_ ?_; (next => omega); (try simp only [Act.put, List.setIfInBounds_toArray, List.set_cons_zero, List.set_cons_succ])) | (refine q_step_ex (by rfl) ?_; apply Exists.intro; refine ⟨fun W hW => ?_, ?_⟩; (next => (have hWc := fun (b o : Nat) (h : b < _) => (Ext.out hW).cell (p := ⟨b, o, none⟩) h); (try have hLK := HLK.out W (Ext.out hW)); go_simp; first | rfl | (go_at_call 27; refine (HTR6.out _ hW.out).mono ?_; rintro x w'' ⟨rfl, hb2⟩; exact ⟨rfl, below_ext hW.out hb2⟩) | fail); (try simp only [Act.put, List.setIfInBounds_toArray, List.set_cons_zero, List.set_cons_succ])) | fail)
            refine wpQuiet_nil ?_
            intro w7 hb7
            go_wp2_with fail
            go_meet
            exact ⟨rfl, hb7⟩
        case rest =>
          obtain ⟨rfl, hb7⟩ := hcut
          have hb47 := below_ext HQ6.out.2 hb7
          have q7 := (hb7.cell (cell_lt HQ6.out.1)).trans HQ6.out.1
          have x6' := (hb7.cell (cell_lt x6)).trans x6
          have HX7 := Lib.hid (HX6.out.ext hb7)
          clear x1 x9 x10 q4 x6 HX6
          by_cases hq : 0 < r.rest.qty
          · rw [if_pos hq] at HGT
            simp only [Option.getD_some, Option.isSome_some] at HGT
            have d2 : decide (0 < r.rest.qty) = true := decide_eq_true hq
            clear hq
            go_wp2_with (first | (go_at_call 24; refine (HGT.out _ hb47).mono ?_; rintro x w8 ⟨rfl, hb8⟩; have hY8 := Blk.new w8 43 Are.ord0.arr _ rfl) | (((with_reducible show wpList _ _ _ (⟨_, .store 43 _ _, _, _, _, _⟩ :: _) _ _); refine wpList_store_blk (by rfl) 43 _ _ (by rfl) _ _ (by rfl) (by rfl) _ _ hY8 (by kernel_rfl) (by rfl) ?_ ?_; (next => first | (simp [Value.oneCell']; done) | (simp [Value.oneCell']; done) | exact Are.ordArr_one _); intro w9 hY9 hU9); have hb9 : Below w8.heap.size w8 w9 := below_upd (by (repeat (first | with_reducible exact Below.refl _ _ | (with_reducible assumption) | (with_reducible refine below_alloc ?_ _) | (with_reducible refine below_ext (w1 := ?_) ?_ ?_; rotate_left 2; (with_reducible assumption)) | (with_reducible refine Below.setCell ?_ ?_ _; rotate_left; ((try simp) <;> omega)) | (with_reducible refine Below.drew ?_) | (with_reducible refine below_drewN ?_ _) | fail))) (Nat.le_refl _) hU9; have hb79 := below_ext hb8 hb9; have hXR := res_rng (HX7.out.ext hb79); have hYR := ord_rng hY9; have hb49 := below_ext hb47 hb79; have x69 := (hb79.cell (cell_lt x6')).trans x6'; clear hY9 hU9 hY8 hb8 hb9) | ((with_reducible show wpList _ _ _ (⟨_, .load 43 _, _, _, _, _⟩ :: _) _ _); refine wpList_load_midw (by rfl) _ _ (by rfl) _ _ (by rfl) _ _ hXR Try.underlying43 rfl (by kernel_rfl) ?_) | ((with_reducible show wpList _ _ _ (⟨_, .load 43 _, _, _, _, _⟩ :: _) _ _); refine wpList_load_midw (by rfl) _ _ (by rfl) _ _ (by rfl) _ _ hYR Try.underlying43 rfl (by kernel_rfl) ?_) | ((with_reducible show wpList _ _ _ (⟨_, .binOp .neq 43 _ _ _, _, _, _, _⟩ :: _) _ _); refine wpList_ne_same (by rfl) _ _ _ (by rfl) r.rest (by rfl) (by rfl) ?_) | fail)
            have W9 := Lib.hid (W4.out.ext hb49)
            go_roundw
            case rel => exact ⟨i + 1, c4, k + r.fills.length + 1, ss4, by go_num, HLT.out, W9⟩
            case measure => (have := HLT.out; simp [intOf]; omega)
          · rw [if_neg hq] at HGT
            simp only [Option.getD_none, Option.isSome_none] at HGT
            have d2 : decide (0 < r.rest.qty) = false := decide_eq_false hq
            clear hq
            go_wp2_with (first | (go_at_call 24; refine (HGT.out _ hb47).mono ?_; rintro x w8 ⟨rfl, hb8⟩; have hY8 := Blk.new w8 43 Are.ord0.arr _ rfl) | (((with_reducible show wpList _ _ _ (⟨_, .store 43 _ _, _, _, _, _⟩ :: _) _ _); refine wpList_store_blk (by rfl) 43 _ _ (by rfl) _ _ (by rfl) (by rfl) _ _ hY8 (by kernel_rfl) (by rfl) ?_ ?_; (next => first | (simp [Value.oneCell']; done) | (simp [Value.oneCell']; done) | exact Are.ordArr_one _); intro w9 hY9 hU9); have hb9 : Below w8.heap.size w8 w9 := below_upd (by (repeat (first | with_reducible exact Below.refl _ _ | (with_reducible assumption) | (with_reducible refine below_alloc ?_ _) | (with_reducible refine below_ext (w1 := ?_) ?_ ?_; rotate_left 2; (with_reducible assumption)) | (with_reducible refine Below.setCell ?_ ?_ _; rotate_left; ((try simp) <;> omega)) | (with_reducible refine Below.drew ?_) | (with_reducible refine below_drewN ?_ _) | fail))) (Nat.le_refl _) hU9; have hb79 := below_ext hb8 hb9; have hXR := res_rng (HX7.out.ext hb79); have hYR := ord_rng hY9; have hb49 := below_ext hb47 hb79; have x69 := (hb79.cell (cell_lt x6')).trans x6'; clear hY9 hU9 hY8 hb8 hb9) | ((with_reducible show wpList _ _ _ (⟨_, .load 43 _, _, _, _, _⟩ :: _) _ _); refine wpList_load_midw (by rfl) _ _ (by rfl) _ _ (by rfl) _ _ hXR Try.underlying43 rfl (by kernel_rfl) ?_) | ((with_reducible show wpList _ _ _ (⟨_, .load 43 _, _, _, _, _⟩ :: _) _ _); refine wpList_load_midw (by rfl) _ _ (by rfl) _ _ (by rfl) _ _ hYR Try.underlying43 rfl (by kernel_rfl) ?_) | ((with_reducible show wpList _ _ _ (⟨_, .binOp .neq 43 _ _ _, _, _, _, _⟩ :: _) _ _); refine wpList_ne_same (by rfl) _ _ _ (by rfl) r.rest (by rfl) (by rfl) ?_) | fail)
            have W9 := Lib.hid (W4.out.ext hb49)
            go_roundw
            case rel => exact ⟨i + 1, c4, k + r.fills.length + 1, ss4, by go_num, HLT.out, W9⟩
            case measure => (have := HLT.out; simp [intOf]; omega)
      · have hr : enterF 30 10 os e = (⟨checkF 30 10 os e, [], Are.ord0, 0, 0⟩, os) := by unfold enterF; rw [if_pos hc]
        have HEN := enter_bad (N := 30) (most := 10) HW3.out.bs e HID.out.1 HID.out.2.1 HID.out.2.2.2 (by rw [← HOS.out]; exact hc)
        rw [← HOS.out, hr] at HEN
        clear hr
        generalize checkF 30 10 os e = f at *
        have k0 : (f != 0) = true := by simpa using hc
        have HEN := Lib.hid HEN
        clear hc
        refine HEN.out.mono ?_
        rintro x w4 ⟨A4, cp4, c4, ss4, rfl, _, _, B4, hos4, hs4⟩
        have hu : Unc (osOf ss4) := by rw [hos4]; show Unc os; rw [HOS.out]; exact HW3.out.unc
        have W4 := Lib.hid (HW3.out.step B4 hs4 (by have := HW3.out.cnt; rw [hos4]; show k + os.length ≤ _; rw [← HOS.out] at this; omega) hu)
        have HCR : Hid (∀ W, Below w4.heap.size w4 W → Calls Try.prog 34 #[.pointer (some ⟨b, 0, none⟩)] W fun e w' => e = .returned (.bool false) ∧ Below W.heap.size W w') := Lib.hid (fun W hW => by
          have h := Bk.crossed_any (W4.out.bs.ext hW)
          rwa [unc_cross hu] at h)
        have HLN : Hid (∀ W, Below w4.heap.size w4 W → Calls Try.prog 33 #[.pointer (some ⟨b, 0, none⟩)] W fun e w' => e = .returned (.int .i64 (os.length : Int)) ∧ Below W.heap.size W w') := Lib.hid (fun W hW => by
          have h := Bk.len_any (W4.out.bs.ext hW)
          rwa [hos4] at h)
        have hX4 : Blk (w4.alloc (.cells (resArr 0 (.slice none 0 0) Are.ord0 0 0) 78)) w4.heap.size 78 (resArr 0 (.slice none 0 0) Are.ord0 0 0) := Blk.new _ _ _ _ rfl
        clear B4 hs4 hos4 HEN HW3 hu HOS
        simp only
        go_wp2_with (first | (((with_reducible show wpList _ _ _ (⟨_, .store 78 _ _, _, _, _, _⟩ :: _) _ _); refine wpList_store_blk (by rfl) 78 _ _ (by rfl) _ _ (by rfl) (by rfl) _ _ hX4 (by kernel_rfl) (by rfl) ?_ ?_; (next => exact res_one ..); intro w5 hX5 hU5); have hb5 : Below w4.heap.size w4 w5 := below_upd (by (repeat (first | with_reducible exact Below.refl _ _ | (with_reducible assumption) | (with_reducible refine below_alloc ?_ _) | (with_reducible refine below_ext (w1 := ?_) ?_ ?_; rotate_left 2; (with_reducible assumption)) | (with_reducible refine Below.setCell ?_ ?_ _; rotate_left; ((try simp) <;> omega)) | (with_reducible refine Below.drew ?_) | (with_reducible refine below_drewN ?_ _) | fail))) (Nat.le_refl _) hU5) | fail)
        refine (HCR.out _ hb5).mono ?_
        rintro x w6 ⟨rfl, hb6⟩
        have hX6 := hX5.ext hb6
        have x0 : w6.cell? ⟨w4.heap.size, 0, none⟩ = some (.int .i64 f) := hX6.cell 0
        go_wp2_with fail
        refine (HLN.out _ (below_ext hb5 hb6)).mono ?_
        rintro x w7 ⟨rfl, hb7⟩
        have hX7 := hX6.ext hb7
        have hmR := res_rng hX7
        have x1 : w7.cell? ⟨w4.heap.size, 1, none⟩ = some (.slice A4 0 cp4) := hX7.cell 1
        have x9 : w7.cell? ⟨w4.heap.size, 9, none⟩ = some (.int .i64 0) := hX7.cell 9
        clear hX7 hX6 x0 HCR HLN
        go_wp2_with (first | ((with_reducible show wpList _ _ _ (⟨_, .load 43 _, _, _, _, _⟩ :: _) _ _); refine wpList_load_midw (by rfl) _ _ (by rfl) _ _ (by rfl) _ _ hmR Try.underlying43 rfl (by kernel_rfl) ?_) | ((with_reducible show wpList _ _ _ (⟨_, .build _ _, _, _, _, _⟩ :: _) _ _); refine wpList_build_is (by rfl) _ _ (by rfl) Are.ord0.arr ?_ ?_; (next => exact Sw.built_ordZ)) | ((with_reducible show wpList _ _ _ (⟨_, .binOp .neq 43 _ _ _, _, _, _, _⟩ :: _) _ _); refine wpList_ne_same (by rfl) _ _ _ (by rfl) Are.ord0 (by rfl) (by rfl) ?_) | fail)
        have W7 := Lib.hid (W4.out.ext (below_ext hb5 (below_ext hb6 hb7)))
        go_roundw
        case rel => exact ⟨i + 1, c4, k, ss4, by go_num, HLT.out, W7⟩
        case measure => (have := HLT.out; simp [intOf]; omega)
    · have hi' : i = l.length := by omega
      subst hi'
      go_wp2_with (first | (go_at_call 30; refine (alive_any _).mono ?_; rintro x w2 ⟨rfl, hb2⟩) | fail)
      go_ret
      exact ⟨rfl, below_ext HW.out.below hb2⟩
theorem keeps_law (l : List En) (hwf : ∀ e ∈ l, Idx.Wf e.o.id ∧ I64 e.o.price ∧ I64 e.o.qty) (A : Option Addr) (cap : Nat) (w : World) (hr : Rd w 11 A (l.map En.cells)) (hml : l.length ≤ maxLen) :
    Calls Try.prog 8 #[.slice A l.length cap] w fun x w' => x = .returned (.bool true) ∧ Below w.heap.size w w' := by
  by_cases h40 : l.length ≤ 40
  · exact keeps_main l hwf A cap w hr h40
  · unfold maxLen at hml
    have h41 : (40 : Int) < l.length := by omega
    clear hr hwf
    go_enter Try.func8, Try.ntmps8
    go_wp2_with (first | (go_at_call 30; refine (alive_any _).mono ?_; rintro x w2 ⟨rfl, hb2⟩) | fail)
    go_ret
    exact ⟨rfl, hb2⟩
theorem fitEn {vs : List Value} (h : fits (List.replicate 11 K) vs) : ∃ e : En, vs = e.cells ∧ Idx.Wf e.o.id ∧ I64 e.o.price ∧ I64 e.o.qty := by
  obtain ⟨a0, _, rfl, b0, h⟩ := fitInt h
  obtain ⟨a1, _, rfl, b1, h⟩ := fitInt h
  obtain ⟨a2, _, rfl, b2, h⟩ := fitInt h
  obtain ⟨a3, _, rfl, b3, h⟩ := fitInt h
  obtain ⟨a4, _, rfl, b4, h⟩ := fitInt h
  obtain ⟨a5, _, rfl, b5, h⟩ := fitInt h
  obtain ⟨a6, _, rfl, b6, h⟩ := fitInt h
  obtain ⟨a7, _, rfl, b7, h⟩ := fitInt h
  obtain ⟨a8, _, rfl, b8, h⟩ := fitInt h
  obtain ⟨a9, _, rfl, b9, h⟩ := fitInt h
  obtain ⟨a10, _, rfl, b10, h⟩ := fitInt h
  obtain rfl := fitNil h
  exact ⟨⟨⟨a0, a1, a2, a3, a4, a5, a6⟩, a7, a8, a9, a10⟩, rfl, WalkArith.wf_i64 b0, b3, b4⟩
open Go.ChangeShapes Go.WideShapes Go.ChangeAt Go.Deep
set_option maxRecDepth 100000 in
theorem argsMatchKeeps (H : Type) (enc : TypeId × Value → H) (W : World) (args : Array Value) (hargs : Args Try.checked H enc [83] W args) :
    Calls Try.prog 8 args W fun e W' => e = .returned (.bool true) ∧ Below W.heap.size W W' := by
  obtain ⟨base, ds, p, hval, hA⟩ := hargs
  obtain ⟨v0, vs0, d0, ds0, p0, q0, hargs, rfl, rfl, h0, r0⟩ := trodAll_cons hA
  obtain ⟨rfl, rfl, rfl⟩ := trodAll_nil r0
  obtain rfl : args = #[v0] := by cases args; simp_all
  obtain ⟨A, la, ca, rows, rfl, hla, hlc, hca, hfa, ha⟩ := open_rows (ks := List.replicate 11 K) 5 Try.underlying83 (by kernel_rfl) (by kernel_rfl) (by decide) (hval 0 _ v0 rfl rfl) h0
  obtain ⟨xs, rfl, hwf⟩ := rowsOf (fun vs h => fitEn h) rows hfa
  rw [List.length_map] at hla
  subst hla
  exact keeps_law xs hwf A ca W ha (by omega)
theorem ownMatchKeeps : ownKnob Try.prog.godebug = none := by kernel_rfl
theorem laidMatchKeeps : laidOutB Try.prog = true := by kernel_rfl
set_option maxRecDepth 100000 in
theorem liftedMatchKeeps (os : Os) (started : os.Started) (H : Type) (enc : TypeId × Value → H) :
    ReturnsInHanded {} Try.checked os 8 .any (Rows.matchKeepsSpec.pre6 enc Try.prog Try.f8 Rows.matchKeepsRow.domain false) (Rows.matchKeepsSpec.post enc Try.prog Try.f8 false true false false) :=
  law_lifted (C := Try.checked) (ts := [83]) (tb := 4) ownMatchKeeps laidMatchKeeps started (by kernel_rfl) Try.func8 (by kernel_rfl)
    (ChangeSpec.witness6 (enc := enc) (C := Try.checked) false ⟨#[], #[.slice none 0 0], []⟩ 8 (by kernel_rfl) (by kernel_rfl) (by kernel_rfl) (by kernel_rfl))
    rfl (by kernel_rfl) Try.underlying4 (by kernel_rfl)
    (fun ds h => by
      match ds, h with
      | [d0], _ => rfl)
    (fun W args h => argsMatchKeeps H enc W args h)
theorem provedMatchKeeps : Rows.MatchKeepsSaid :=
  OpenClaim.holds_of_wide 8 Try.f8 rfl rfl rfl rfl rfl rfl rfl ⟨rfl, rfl, rfl, rfl, rfl⟩ rfl rfl rfl rfl rfl (by kernel_rfl) Try.func8 (by kernel_rfl)
    (of_decide_eq_true (by kernel_rfl)) (by unfold Func.isWrapper; first | (rw [if_pos (by decide +kernel)]; kernel_rfl) | (rw [if_neg (by decide +kernel)]; exact ⟨rfl, rfl⟩))
    (fun os started H enc _ => liftedMatchKeeps os started H enc)
#print axioms provedMatchKeeps
end Ma
end Go.Proofs.Ytgaialcbpglhaaa
