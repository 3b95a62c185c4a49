/- This text proves plain laws on what an order that comes does: whether it may, what it trades, whether what is left rests. It has no conditions but those that it states. This text proves what the small functions of the package match answer. It has no conditions but those that it states. This text proves small general laws: a region's rest in a round, and results that lie in cells. It has no conditions but those that it states. This text proves what match.meets answers: the price of the first order of the other side that a plan leaves. It has no conditions but those that it states. This text proves what an order that comes would trade, and whether what is left rests: contracts of match.Entry's plan and rests. It has no conditions but those that it states. This text proves plain laws on what comes of an order: what each type promises, and that its quantity is kept. It has no conditions but those that it states. This text proves what the first fault of a row of questions is: the contract of match.first, whatever functions are handed in. It has no conditions but those that it states. This text proves contracts of the packages short and damperref24 (Trips, Covers, May, Least), and of the helpers of damperlaw24. They have no conditions but those that they state. This text proves laws for a region whose order is open and that holds one call that makes memory: loads that need not stand ahead of it, and quiet operations behind it. It has no conditions but those that it states. This text proves what match.Check answers of a held book and any order that comes. It has no conditions but those that it states. This text proves what match.Enter makes of a held book and any order that comes. It has no conditions but those that it states. This text proves that the example of the chapter on matching comes out, and how a statement hands an entry on. It has no conditions but those that it states. -/
import Derived.Test.YtbnappiaomiciaaGreatSwA
import Derived.Test.YtbnappiaomiciaaGreatSwT
import Derived.Test.YtbnappiaomiciaaGreatBkPl
import Derived.Test.YtbnappiaomiciaaGreatSwV
import Derived.Test.YtbnappiaomiciaaGreatRound
import Derived.Test.YtbnappiaomiciaaGreatQuiet
import Derived.Test.YtbnappiaomiciaaGreatFix
import Derived.Deep.RegionWith
import Derived.Test.YtbnappiaomiciaaGreatSink
import Derived.Test.YtbnappiaomiciaaGreatSwP
namespace Go.Proofs.YtbnappiaomiciaaGreat
set_option linter.unusedVariables false
namespace Ma
open Bk (bet srt sdO fndI roomO addF addO frontO rmI redO redF rdI less)
open Sw (Tk Fl mk mkP wrs trd appF Pok rchO)
/-- An order that comes. -/
structure En where
  (o : Ord) (typ lo hi self : Int)
def En.cells (e : En) : List Value := e.o.cells ++ [.int .i64 e.typ, .int .i64 e.lo, .int .i64 e.hi, .int .i64 e.self]
def En.arr (e : En) : Array Value := e.cells.toArray
@[go_sem] theorem En.arr_size (e : En) : e.arr.size = 11 := rfl
@[go_sem] theorem En.arr_0 (e : En) : e.arr[0]? = some (.int .i64 e.o.id) := rfl
@[go_sem] theorem En.arr_1 (e : En) : e.arr[1]? = some (.int .i64 e.o.owner) := rfl
@[go_sem] theorem En.arr_2 (e : En) : e.arr[2]? = some (.int .i64 e.o.side) := rfl
@[go_sem] theorem En.arr_3 (e : En) : e.arr[3]? = some (.int .i64 e.o.price) := rfl
@[go_sem] theorem En.arr_4 (e : En) : e.arr[4]? = some (.int .i64 e.o.qty) := rfl
@[go_sem] theorem En.arr_5 (e : En) : e.arr[5]? = some (.int .i64 e.o.flags) := rfl
@[go_sem] theorem En.arr_6 (e : En) : e.arr[6]? = some (.int .i64 e.o.seq) := rfl
@[go_sem] theorem En.arr_7 (e : En) : e.arr[7]? = some (.int .i64 e.typ) := rfl
@[go_sem] theorem En.arr_8 (e : En) : e.arr[8]? = some (.int .i64 e.lo) := rfl
@[go_sem] theorem En.arr_9 (e : En) : e.arr[9]? = some (.int .i64 e.hi) := rfl
@[go_sem] theorem En.arr_10 (e : En) : e.arr[10]? = some (.int .i64 e.self) := rfl
/-- Is a price beyond the band? -/
def beyF (s lo hi p : Int) : Bool := decide ((s = 0 ∧ hi < p) ∨ (s = 1 ∧ p < lo))
/-- Is a flag not set that lets an order rest at the band's edge? -/
def fixedF (f : Int) : Bool := bits .and .i64 f 4 == 0
def edgeF (e : En) : Int := if fixedF e.o.flags = true ∨ beyF e.o.side e.lo e.hi e.o.price = false then e.o.price else if e.o.side = 0 then e.hi else e.lo
def limF (e : En) : Int := if e.typ = 2 then 0 else e.o.price
def staysF (e : En) : Bool := decide (e.typ = 1 ∨ e.typ = 5)
def tkE (e : En) : Tk := ⟨e.o.side, e.o.owner, limF e, e.o.qty, e.lo, e.hi, e.self⟩
/-- The price of the first order that a plan leaves. -/
def meetsO : List Fl → List Ord → Option Int
  | _, [] => none
  | [], o :: _ => some o.price
  | f :: fs, o :: l => if f.id = o.id ∧ f.qty = o.qty then meetsO fs l else some o.price
def openF (s edge : Int) : Option Int → Bool
  | none => true
  | some q => bet s q edge
def restsF (os : List Ord) (e : En) (p : List Fl × Int × Int) : Bool :=
  decide (p.2.1 ≠ 0 ∧ p.2.2 ≠ 3 ∧ staysF e = true ∧ 1 ≤ edgeF e ∧ edgeF e ≤ 1099511627776 ∧ beyF e.o.side e.lo e.hi (edgeF e) = false) && openF e.o.side (edgeF e) (meetsO p.1 (srt (1 - e.o.side) os))
def rangedF (e : En) : Bool := if e.typ = 2 then decide (e.o.price ≠ 0) else decide (¬ (1 ≤ e.o.price ∧ e.o.price ≤ 1099511627776))
def whyF (e : En) (p : List Fl × Int × Int) : Int := if p.2.1 = 0 then 0 else if p.2.2 = 3 then 4 else if p.2.2 = 2 ∨ staysF e = true then 3 else 2
/-- What is wrong, question by question. -/
def askQ (N most : Nat) (os : List Ord) (e : En) : Nat → Bool
  | 0 => decide ((e.o.side ≠ 0 ∧ e.o.side ≠ 1) ∨ e.typ < 1 ∨ 5 < e.typ)
  | 1 => decide (¬ (1 ≤ e.o.qty ∧ e.o.qty ≤ 4294967296)) || rangedF e
  | 2 => (fndI e.o.id os).isSome
  | 3 => decide (e.typ = 5) && rchO e.o.side e.o.price os
  | 4 => decide (e.typ = 4) && decide (0 < (mkP (tkE e) os).2.1)
  | _ => restsF os e (mkP (tkE e) os) && !roomO N most e.o.side (edgeF e) os
def fauK : Nat → Int
  | 0 => 1
  | 1 => 9
  | 2 => 6
  | 3 => 12
  | 4 => 13
  | _ => 7
def fstQ (q : Nat → Bool) (F : Nat → Int) : Nat → Nat → Int
  | _, 0 => 0
  | k, m + 1 => if q k = true then F k else fstQ q F (k + 1) m
def checkF (N most : Nat) (os : List Ord) (e : En) : Int := fstQ (askQ N most os e) fauK 0 6
/-- What comes of an order. -/
structure Rs where
  (fault : Int) (fills : List Fl) (rest : Ord) (gone why : Int)
def restO (e : En) (left : Int) : Ord := { e.o with price := edgeF e, qty := left }
def enterF (N most : Nat) (os : List Ord) (e : En) : Rs × List Ord :=
  if checkF N most os e ≠ 0 then (⟨checkF N most os e, [], Are.ord0, 0, 0⟩, os)
  else
    if restsF os e (mkP (tkE e) os) = true then
      (⟨0, (mkP (tkE e) os).1, restO e (mkP (tkE e) os).2.1, 0, 0⟩, addO N most (appF (mkP (tkE e) os).1 os).2 (restO e (mkP (tkE e) os).2.1))
    else (⟨0, (mkP (tkE e) os).1, Are.ord0, (mkP (tkE e) os).2.1, whyF e (mkP (tkE e) os)⟩, (appF (mkP (tkE e) os).1 os).2)
/-- What is known when nothing is wrong. -/
structure Good (N most : Nat) (os : List Ord) (e : En) : Prop where
  side : e.o.side = 0 ∨ e.o.side = 1
  typ : 1 ≤ e.typ ∧ e.typ ≤ 5
  qty : 1 ≤ e.o.qty ∧ e.o.qty ≤ 4294967296
  ranged : rangedF e = false
  new : fndI e.o.id os = none
  post : e.typ = 5 → rchO e.o.side e.o.price os = false
  all : e.typ = 4 → ¬ 0 < (mkP (tkE e) os).2.1
  room : restsF os e (mkP (tkE e) os) = true → roomO N most e.o.side (edgeF e) os = true
theorem fst_zero {q : Nat → Bool} {F : Nat → Int} (hF : ∀ k, F k ≠ 0) : ∀ (m k : Nat), fstQ q F k m = 0 → ∀ j, k ≤ j → j < k + m → q j = false
  | 0, k, _, j, h1, h2 => absurd h2 (by omega)
  | m + 1, k, h, j, h1, h2 => by
    unfold fstQ at h
    by_cases h0 : q k = true
    · rw [if_pos h0] at h
      exact absurd h (hF k)
    · rw [if_neg h0] at h
      by_cases hj : j = k
      · rw [hj]; simpa using h0
      · exact fst_zero hF m (k + 1) h j (by omega) (by omega)
theorem fau_ne (k : Nat) : fauK k ≠ 0 := by
  unfold fauK
  split <;> decide
theorem good {N most : Nat} {os : List Ord} {e : En} (h : checkF N most os e = 0) : Good N most os e := by
  have H := fst_zero fau_ne 6 0 h
  have h0 : decide ((e.o.side ≠ 0 ∧ e.o.side ≠ 1) ∨ e.typ < 1 ∨ 5 < e.typ) = false := H 0 (by omega) (by omega)
  have h1 : (decide (¬ (1 ≤ e.o.qty ∧ e.o.qty ≤ 4294967296)) || rangedF e) = false := H 1 (by omega) (by omega)
  have h2 : (fndI e.o.id os).isSome = false := H 2 (by omega) (by omega)
  have h3 : (decide (e.typ = 5) && rchO e.o.side e.o.price os) = false := H 3 (by omega) (by omega)
  have h4 : (decide (e.typ = 4) && decide (0 < (mkP (tkE e) os).2.1)) = false := H 4 (by omega) (by omega)
  have h5 : (restsF os e (mkP (tkE e) os) && !roomO N most e.o.side (edgeF e) os) = false := H 5 (by omega) (by omega)
  have k0 := of_decide_eq_false h0
  rw [Bool.or_eq_false_iff] at h1
  have k1 := of_decide_eq_false h1.1
  refine ⟨by omega, by omega, by omega, h1.2, by simpa using h2, fun ht => ?_, fun ht hl => ?_, fun hr => ?_⟩
  · rw [decide_eq_true ht, Bool.true_and] at h3
    exact h3
  · rw [decide_eq_true ht, decide_eq_true hl] at h4
    cases h4
  · rw [hr, Bool.true_and, Bool.not_eq_false'] at h5
    exact h5
theorem Good.plan {N most : Nat} {os : List Ord} {e : En} (G : Good N most os e) : mkP (tkE e) os = Sw.mk (tkE e) (srt (1 - e.o.side) os) e.o.qty := by
  unfold mkP
  rw [if_pos ⟨G.side, G.qty.1⟩]
  rfl
theorem Good.pok {N most : Nat} {os : List Ord} {e : En} (G : Good N most os e) (hok : ∀ o ∈ os, 1 ≤ o.qty) : Pok (tkE e) (srt (1 - e.o.side) os) e.o.qty (mkP (tkE e) os) := by
  rw [G.plan]
  exact Sw.mk_ok _ _ _ (by have := G.qty.1; omega) (fun o ho => hok o ((List.mem_filter.1 ((Bk.srt_perm _ _).mem_iff.1 ho)).1))
/-- What is left does not rest where no more than a moment is asked. -/
theorem rests_left {os : List Ord} {e : En} {p : List Fl × Int × Int} (h : restsF os e p = true) : p.2.1 ≠ 0 ∧ staysF e = true ∧ 1 ≤ edgeF e ∧ edgeF e ≤ 1099511627776 ∧ beyF e.o.side e.lo e.hi (edgeF e) = false ∧ openF e.o.side (edgeF e) (meetsO p.1 (srt (1 - e.o.side) os)) = true := by
  unfold restsF at h
  rw [Bool.and_eq_true, decide_eq_true_eq] at h
  exact ⟨h.1.1, h.1.2.2.1, h.1.2.2.2.1, h.1.2.2.2.2.1, h.1.2.2.2.2.2, h.2⟩
end Ma
end Go.Proofs.YtbnappiaomiciaaGreat
namespace Go.Proofs.YtbnappiaomiciaaGreat
set_option linter.unusedVariables false
open Go.RowKit
namespace Ma
set_option maxHeartbeats 4000000
set_option maxRecDepth 10000
open Bk (bet Bs osOf srt Sl)
open Sw (Tk Fl mk mkP MkPost)
theorem beyond_any (e : En) (p : Int) (w : World) : Calls Tryz.prog 51 #[.agg e.arr, .int .i64 p] w fun x w' => x = .returned (.bool (beyF e.o.side e.lo e.hi p)) ∧ Below w.heap.size w w' := by
  go_enter Tryz.func51, Tryz.ntmps51
  go_wp2_with fail
  all_goals go_ret
  all_goals refine ⟨ret_bool ?_, by (repeat (first | with_reducible exact Below.refl _ _ | (with_reducible assumption) | (with_reducible refine below_alloc ?_ _) | (with_reducible refine below_ext (w1 := ?_) ?_ ?_; rotate_left 2; (with_reducible assumption)) | (with_reducible refine Below.setCell ?_ ?_ _; rotate_left; ((try simp) <;> omega)) | (with_reducible refine Below.drew ?_) | (with_reducible refine below_drewN ?_ _) | fail))⟩
  all_goals (simp_all [beyF] <;> omega)
theorem limit_any (e : En) (w : World) : Calls Tryz.prog 49 #[.agg e.arr] w fun x w' => x = .returned (.int .i64 (limF e)) ∧ Below w.heap.size w w' := by
  by_cases h : e.typ = 2
  · have k : (e.typ == 2) = true := by simp [h]
    have HL : Hid (limF e = 0) := Lib.hid (by unfold limF; rw [if_pos h])
    clear h
    go_enter Tryz.func49, Tryz.ntmps49
    go_wp2_with fail
    go_ret
    exact ⟨by rw [HL.out]; rfl, by (repeat (first | with_reducible exact Below.refl _ _ | (with_reducible assumption) | (with_reducible refine below_alloc ?_ _) | (with_reducible refine below_ext (w1 := ?_) ?_ ?_; rotate_left 2; (with_reducible assumption)) | (with_reducible refine Below.setCell ?_ ?_ _; rotate_left; ((try simp) <;> omega)) | (with_reducible refine Below.drew ?_) | (with_reducible refine below_drewN ?_ _) | fail))⟩
  · have k : (e.typ == 2) = false := by simp [h]
    have HL : Hid (limF e = e.o.price) := Lib.hid (by unfold limF; rw [if_neg h])
    clear h
    go_enter Tryz.func49, Tryz.ntmps49
    go_wp2_with fail
    go_ret
    exact ⟨by rw [HL.out]; rfl, by (repeat (first | with_reducible exact Below.refl _ _ | (with_reducible assumption) | (with_reducible refine below_alloc ?_ _) | (with_reducible refine below_ext (w1 := ?_) ?_ ?_; rotate_left 2; (with_reducible assumption)) | (with_reducible refine Below.setCell ?_ ?_ _; rotate_left; ((try simp) <;> omega)) | (with_reducible refine Below.drew ?_) | (with_reducible refine below_drewN ?_ _) | fail))⟩
theorem stays_any (e : En) (w : World) : Calls Tryz.prog 50 #[.agg e.arr] w fun x w' => x = .returned (.bool (staysF e)) ∧ Below w.heap.size w w' := by
  go_enter Tryz.func50, Tryz.ntmps50
  go_wp2_with fail
  all_goals go_ret
  all_goals refine ⟨ret_bool ?_, by (repeat (first | with_reducible exact Below.refl _ _ | (with_reducible assumption) | (with_reducible refine below_alloc ?_ _) | (with_reducible refine below_ext (w1 := ?_) ?_ ?_; rotate_left 2; (with_reducible assumption)) | (with_reducible refine Below.setCell ?_ ?_ _; rotate_left; ((try simp) <;> omega)) | (with_reducible refine Below.drew ?_) | (with_reducible refine below_drewN ?_ _) | fail))⟩
  all_goals (unfold staysF; by_cases h1 : e.typ = 1 <;> by_cases h5 : e.typ = 5 <;> simp_all)
theorem edge_any (e : En) (w : World) : Calls Tryz.prog 19 #[.agg e.arr] w fun x w' => x = .returned (.int .i64 (edgeF e)) ∧ Below w.heap.size w w' := by
  have HB := Lib.hid (fun W => beyond_any e e.o.price W)
  cases h4 : fixedF e.o.flags with
  | true =>
    have HE : Hid (edgeF e = e.o.price) := Lib.hid (by unfold edgeF; rw [if_pos (.inl h4)])
    unfold fixedF at h4
    go_enter Tryz.func19, Tryz.ntmps19
    go_wp2_with fail
    go_ret
    exact ⟨by rw [HE.out]; rfl, by (repeat (first | with_reducible exact Below.refl _ _ | (with_reducible assumption) | (with_reducible refine below_alloc ?_ _) | (with_reducible refine below_ext (w1 := ?_) ?_ ?_; rotate_left 2; (with_reducible assumption)) | (with_reducible refine Below.setCell ?_ ?_ _; rotate_left; ((try simp) <;> omega)) | (with_reducible refine Below.drew ?_) | (with_reducible refine below_drewN ?_ _) | fail))⟩
  | false =>
    cases hb : beyF e.o.side e.lo e.hi e.o.price with
    | false =>
      have HE : Hid (edgeF e = e.o.price) := Lib.hid (by unfold edgeF; rw [if_pos (.inr hb)])
      rw [hb] at HB
      clear hb
      unfold fixedF at h4
      go_enter Tryz.func19, Tryz.ntmps19
      go_wp2_with (first | ((with_reducible show wpList _ _ _ (⟨_, .load 37 _, _, _, _, _⟩ :: _) _ _); refine wpList_load_ho 37 _ (by rfl) (by rfl) ?_ (.pointer (some ⟨_, 0, none⟩)) (by rfl) ?_ _ Tryz.underlying37 rfl ?_ ?_; rotate_left; (next => (repeat (first | (with_reducible refine BlkAt.new _ _ _ _ ?_; ((try simp) <;> omega)) | (with_reducible assumption) | (with_reducible refine Blk.at (t := ?_) ?_; rotate_left; with_reducible assumption) | with_reducible refine BlkAt.alloc ?_ _ | with_reducible refine BlkAt.drew ?_ | (with_reducible refine BlkAt.setSame ?_ _ _) | (with_reducible refine BlkAt.setCell ?_ ?_ _; rotate_left; ((try simp) <;> omega)) | (with_reducible refine BlkAt.ext (w := ?_) ?_ ?_; rotate_left 2; (with_reducible assumption)) | fail))); (next => kernel_rfl)) | (go_at_call 51; refine (HB.out _).mono ?_; rintro e w2 ⟨rfl, hb2⟩; (have hcb2 := fun (b o : Nat) (h : b < _) => hb2.cell (p := ⟨b, o, none⟩) h)) | fail)
      go_ret
      exact ⟨by rw [HE.out]; rfl, by (repeat (first | with_reducible exact Below.refl _ _ | (with_reducible assumption) | (with_reducible refine below_alloc ?_ _) | (with_reducible refine below_ext (w1 := ?_) ?_ ?_; rotate_left 2; (with_reducible assumption)) | (with_reducible refine Below.setCell ?_ ?_ _; rotate_left; ((try simp) <;> omega)) | (with_reducible refine Below.drew ?_) | (with_reducible refine below_drewN ?_ _) | fail))⟩
    | true =>
      have HE : Hid (edgeF e = if e.o.side = 0 then e.hi else e.lo) := Lib.hid (by unfold edgeF; rw [if_neg (by rw [h4, hb]; simp)])
      rw [hb] at HB
      clear hb
      unfold fixedF at h4
      by_cases hs : e.o.side = 0
      · have k0 : (e.o.side == 0) = true := by simp [hs]
        rw [if_pos hs] at HE
        clear hs
        go_enter Tryz.func19, Tryz.ntmps19
        go_wp2_with (first | ((with_reducible show wpList _ _ _ (⟨_, .load 37 _, _, _, _, _⟩ :: _) _ _); refine wpList_load_ho 37 _ (by rfl) (by rfl) ?_ (.pointer (some ⟨_, 0, none⟩)) (by rfl) ?_ _ Tryz.underlying37 rfl ?_ ?_; rotate_left; (next => (repeat (first | (with_reducible refine BlkAt.new _ _ _ _ ?_; ((try simp) <;> omega)) | (with_reducible assumption) | (with_reducible refine Blk.at (t := ?_) ?_; rotate_left; with_reducible assumption) | with_reducible refine BlkAt.alloc ?_ _ | with_reducible refine BlkAt.drew ?_ | (with_reducible refine BlkAt.setSame ?_ _ _) | (with_reducible refine BlkAt.setCell ?_ ?_ _; rotate_left; ((try simp) <;> omega)) | (with_reducible refine BlkAt.ext (w := ?_) ?_ ?_; rotate_left 2; (with_reducible assumption)) | fail))); (next => kernel_rfl)) | (go_at_call 51; refine (HB.out _).mono ?_; rintro e w2 ⟨rfl, hb2⟩; (have hcb2 := fun (b o : Nat) (h : b < _) => hb2.cell (p := ⟨b, o, none⟩) h)) | fail)
        go_ret
        exact ⟨by rw [HE.out]; rfl, by (repeat (first | with_reducible exact Below.refl _ _ | (with_reducible assumption) | (with_reducible refine below_alloc ?_ _) | (with_reducible refine below_ext (w1 := ?_) ?_ ?_; rotate_left 2; (with_reducible assumption)) | (with_reducible refine Below.setCell ?_ ?_ _; rotate_left; ((try simp) <;> omega)) | (with_reducible refine Below.drew ?_) | (with_reducible refine below_drewN ?_ _) | fail))⟩
      · have k0 : (e.o.side == 0) = false := by simp [hs]
        rw [if_neg hs] at HE
        clear hs
        go_enter Tryz.func19, Tryz.ntmps19
        go_wp2_with (first | ((with_reducible show wpList _ _ _ (⟨_, .load 37 _, _, _, _, _⟩ :: _) _ _); refine wpList_load_ho 37 _ (by rfl) (by rfl) ?_ (.pointer (some ⟨_, 0, none⟩)) (by rfl) ?_ _ Tryz.underlying37 rfl ?_ ?_; rotate_left; (next => (repeat (first | (with_reducible refine BlkAt.new _ _ _ _ ?_; ((try simp) <;> omega)) | (with_reducible assumption) | (with_reducible refine Blk.at (t := ?_) ?_; rotate_left; with_reducible assumption) | with_reducible refine BlkAt.alloc ?_ _ | with_reducible refine BlkAt.drew ?_ | (with_reducible refine BlkAt.setSame ?_ _ _) | (with_reducible refine BlkAt.setCell ?_ ?_ _; rotate_left; ((try simp) <;> omega)) | (with_reducible refine BlkAt.ext (w := ?_) ?_ ?_; rotate_left 2; (with_reducible assumption)) | fail))); (next => kernel_rfl)) | (go_at_call 51; refine (HB.out _).mono ?_; rintro e w2 ⟨rfl, hb2⟩; (have hcb2 := fun (b o : Nat) (h : b < _) => hb2.cell (p := ⟨b, o, none⟩) h)) | fail)
        go_ret
        exact ⟨by rw [HE.out]; rfl, by (repeat (first | with_reducible exact Below.refl _ _ | (with_reducible assumption) | (with_reducible refine below_alloc ?_ _) | (with_reducible refine below_ext (w1 := ?_) ?_ ?_; rotate_left 2; (with_reducible assumption)) | (with_reducible refine Below.setCell ?_ ?_ _; rotate_left; ((try simp) <;> omega)) | (with_reducible refine Below.drew ?_) | (with_reducible refine below_drewN ?_ _) | fail))⟩
theorem why_any (e : En) (v : Value) (hv : v.cells = #[v]) (p : List Fl × Int × Int) (w : World) : Calls Tryz.prog 18 #[.agg e.arr, .agg #[v, .int .i64 p.2.1, .int .i64 p.2.2]] w fun x w' => x = .returned (.int .i64 (whyF e p)) ∧ Below w.heap.size w w' := by
  have HS := Lib.hid (fun W => stays_any e W)
  obtain ⟨fs, left, stop⟩ := p
  have hw : whyF e (fs, left, stop) = if left = 0 then 0 else if stop = 3 then 4 else if stop = 2 then 3 else if staysF e = true then 3 else 2 := by
    unfold whyF
    by_cases h : stop = 2 <;> simp [h]
  rw [hw]
  simp only
  clear hw
  generalize staysF e = z at *
  cases z
  all_goals
    go_enter Tryz.func18, Tryz.ntmps18
    go_wp2_with (first | ((with_reducible show wpList _ _ _ (⟨_, .load 37 _, _, _, _, _⟩ :: _) _ _); refine wpList_load_ho 37 _ (by rfl) (by rfl) ?_ (.pointer (some ⟨_, 0, none⟩)) (by rfl) ?_ _ Tryz.underlying37 rfl ?_ ?_; rotate_left; (next => (repeat (first | (with_reducible refine BlkAt.new _ _ _ _ ?_; ((try simp) <;> omega)) | (with_reducible assumption) | (with_reducible refine Blk.at (t := ?_) ?_; rotate_left; with_reducible assumption) | with_reducible refine BlkAt.alloc ?_ _ | with_reducible refine BlkAt.drew ?_ | (with_reducible refine BlkAt.setSame ?_ _ _) | (with_reducible refine BlkAt.setCell ?_ ?_ _; rotate_left; ((try simp) <;> omega)) | (with_reducible refine BlkAt.ext (w := ?_) ?_ ?_; rotate_left 2; (with_reducible assumption)) | fail))); (next => kernel_rfl)) | (go_at_call 50; refine (HS.out _).mono ?_; rintro e w2 ⟨rfl, hb2⟩; (have hcb2 := fun (b o : Nat) (h : b < _) => hb2.cell (p := ⟨b, o, none⟩) h)) | fail)
    all_goals go_ret
    all_goals refine ⟨ret_int ?_, by (repeat (first | with_reducible exact Below.refl _ _ | (with_reducible assumption) | (with_reducible refine below_alloc ?_ _) | (with_reducible refine below_ext (w1 := ?_) ?_ ?_; rotate_left 2; (with_reducible assumption)) | (with_reducible refine Below.setCell ?_ ?_ _; rotate_left; ((try simp) <;> omega)) | (with_reducible refine Below.drew ?_) | (with_reducible refine below_drewN ?_ _) | fail))⟩
    all_goals simp_all
end Ma
end Go.Proofs.YtbnappiaomiciaaGreat
namespace Go.Proofs.YtbnappiaomiciaaGreat
set_option linter.unusedVariables false
open Go.RowKit
theorem results_two {fn : Func} {p q : Tmp} {t u : TypeId} (h : fn.results = #[.cell p t, .cell q u]) (tmps : Array Value) (P : Program) (w : World) (g i g2 i2 : Nat) (x y : Value) (hp : tmps.getD p undef = .pointer (some ⟨g, i, none⟩)) (hq : tmps.getD q undef = .pointer (some ⟨g2, i2, none⟩)) (hs : scalarB P t = true) (hs2 : scalarB P u = true) (hc : w.cell? ⟨g, i, none⟩ = some x) (hc2 : w.cell? ⟨g2, i2, none⟩ = some y) :
    (results fn tmps).run P w = .ok (.tuple #[x, y]) w := by
  have hp' : tmps[p]?.getD undef = .pointer (some ⟨g, i, none⟩) := by simpa using hp
  have hq' : tmps[q]?.getD undef = .pointer (some ⟨g2, i2, none⟩) := by simpa using hq
  have h1 := run_load_scalar (P := P) w t ⟨g, i, none⟩ x hs hc
  have h2 := run_load_scalar (P := P) w u ⟨g2, i2, none⟩ y hs2 hc2
  simp only [Instr.loadAt, Instr.sureAddr, Sem.run_bind, Sem.run_pure, Result.andThen_ok] at h1 h2
  simp [results, h, hp', hq', asAddr, h1, h2]
end Go.Proofs.YtbnappiaomiciaaGreat
namespace Go.Proofs.YtbnappiaomiciaaGreat
set_option linter.unusedVariables false
open Go.RowKit
namespace Ma
set_option maxHeartbeats 4000000
set_option maxRecDepth 10000
attribute [local go_sem] Oper.semAt_some
open Bk (bet Bs osOf srt Oo Sl)
open Sw (Tk Fl mk mkP)
def MtPost (w : World) (r : Option Int) (e : Ending) (w' : World) : Prop := e = .returned (.tuple #[.int .i64 (r.getD 0), .bool r.isSome]) ∧ Below w.heap.size w w'
/-- What the loop keeps. -/
structure Mm (fs : List Fl) (nb zb : Nat) (w8 W : World) (pre : List Ord) (n : Nat) : Prop where
  eq : ∀ rest, meetsO fs (pre ++ rest) = meetsO (fs.drop n) rest
  le : n ≤ fs.length
  N : Blk W nb 3 #[.int .i64 n]
  low : Kc [nb] [] zb w8 W
/-- What a loop that stops leaves. -/
def Mq (fs : List Fl) (b6 b7 B0 : Nat) (w W : World) (pre : List Ord) (cd : Code) : Prop :=
  cd = .ret ∧ ∃ p : Int, (∀ rest, meetsO fs (pre ++ rest) = some p) ∧ Blk W b6 2 #[.int .i64 p] ∧ Blk W b7 4 #[.bool true] ∧ Below B0 w W
theorem meets_go {fs : List Fl} {pre : List Ord} {n : Nat} {o : Ord} (h : ∀ rest, meetsO fs (pre ++ rest) = meetsO (fs.drop n) rest) (hn : n < fs.length) (h1 : fs[n].id = o.id) (h2 : fs[n].qty = o.qty) : ∀ rest, meetsO fs ((pre ++ [o]) ++ rest) = meetsO (fs.drop (n + 1)) rest := fun rest => by
  rw [List.append_assoc, List.singleton_append, h, List.drop_eq_getElem_cons hn]
  simp only [meetsO]
  rw [if_pos ⟨h1, h2⟩]
theorem meets_stop {fs : List Fl} {pre : List Ord} {n : Nat} {o : Ord} (h : ∀ rest, meetsO fs (pre ++ rest) = meetsO (fs.drop n) rest) (hn : ∀ hn : n < fs.length, ¬ (fs[n].id = o.id ∧ fs[n].qty = o.qty)) : ∀ rest, meetsO fs ((pre ++ [o]) ++ rest) = some o.price := fun rest => by
  rw [List.append_assoc, List.singleton_append, h]
  by_cases hl : n < fs.length
  · rw [List.drop_eq_getElem_cons hl]
    simp only [meetsO]
    rw [if_neg (hn hl)]
  · rw [List.drop_eq_nil_of_le (by omega)]
    rfl
theorem meetsO_nil (fs : List Fl) : meetsO fs [] = none := by cases fs <;> rfl
theorem wr2_stop {W : World} {b6 b7 B0 zb : Nat} {w : World} (h6 : Blk W b6 2 #[.int .i64 0]) (h7 : Blk W b7 4 #[.bool false]) (hne : b6 ≠ b7) (hB6 : B0 ≤ b6) (hB7 : B0 ≤ b7) (hb : Below B0 w W) (p : Int) :
    KeepsFrom zb W ((W.setCell ⟨b6, 0, none⟩ (.int .i64 p)).setCell ⟨b7, 0, none⟩ (.bool true)) ∧ Blk ((W.setCell ⟨b6, 0, none⟩ (.int .i64 p)).setCell ⟨b7, 0, none⟩ (.bool true)) b6 2 #[.int .i64 p] ∧ Blk ((W.setCell ⟨b6, 0, none⟩ (.int .i64 p)).setCell ⟨b7, 0, none⟩ (.bool true)) b7 4 #[.bool true] ∧ Below B0 w ((W.setCell ⟨b6, 0, none⟩ (.int .i64 p)).setCell ⟨b7, 0, none⟩ (.bool true)) := by
  have u1 := Upd.setCell W ⟨b6, 0, none⟩ (.int .i64 p)
  have u2 := Upd.setCell (W.setCell ⟨b6, 0, none⟩ (.int .i64 p)) ⟨b7, 0, none⟩ (.bool true)
  exact ⟨((KeepsOthers.setCell _ _ _).trans (KeepsOthers.setCell _ _ _)).from _, (h6.setCell 0 _).upd hne u2, (h7.upd (Ne.symm hne) u1).setCell 0 _, below_upd (below_upd hb (show B0 ≤ b6 from hB6) u1) (show B0 ≤ b7 from hB7) u2⟩
section
variable {w : World} {c : Nat → Nat} {b N most k : Nat} {ss : List Sl}
theorem meets_any (S : Bs w c b N most k ss) (s : Int) (hs : s = 0 ∨ s = 1) {fs : List Fl} {A : Option Addr} {cap : Nat} (hrd : Rd w 4 A (fs.map Fl.cells)) (hA : ∀ a, A = some a → a.block < w.heap.size) (hfl : fs.length ≤ 500) (left stop : Int) :
    Calls Tryz.prog 52 #[.pointer (some ⟨b, 0, none⟩), .int .i64 s, .agg #[.slice A fs.length cap, .int .i64 left, .int .i64 stop]] w (MtPost w (meetsO fs (srt (1 - s) (osOf ss)))) := by
  obtain ⟨P, hP⟩ : ∃ P : Array Value, P = #[.slice A fs.length cap, .int .i64 left, .int .i64 stop] := ⟨_, rfl⟩
  obtain ⟨w0, hw0⟩ : ∃ w0, w0 = (((w.alloc (.cells #[.slice A fs.length cap, .int .i64 left, .int .i64 stop] 59)).alloc (.cells #[.int .i64 0] 2)).alloc (.cells #[.bool false] 4)).alloc (.cells #[.int .i64 0] 3) := ⟨_, rfl⟩
  have hP0 : Blk w0 w.heap.size 59 P := by rw [hw0, hP]; exact (((Blk.new w _ _ _ rfl).alloc _).alloc _).alloc _
  have h60 : Blk w0 (w.heap.size + 1) 2 #[.int .i64 0] := by rw [hw0]; exact ((Blk.new _ _ _ _ (by simp only [sz_alloc])).alloc _).alloc _
  have h70 : Blk w0 (w.heap.size + 2) 4 #[.bool false] := by rw [hw0]; exact (Blk.new _ _ _ _ (by simp only [sz_alloc])).alloc _
  have hN0 : Blk w0 (w.heap.size + 3) 3 #[.int .i64 0] := by rw [hw0]; exact Blk.new _ _ _ _ (by simp only [sz_alloc])
  have hb0 : Below w.heap.size w w0 := by rw [hw0]; (repeat (first | with_reducible exact Below.refl _ _ | (with_reducible assumption) | (with_reducible refine below_alloc ?_ _) | (with_reducible refine below_ext (w1 := ?_) ?_ ?_; rotate_left 2; (with_reducible assumption)) | (with_reducible refine Below.setCell ?_ ?_ _; rotate_left; ((try simp) <;> omega)) | (with_reducible refine Below.drew ?_) | (with_reducible refine below_drewN ?_ _) | fail))
  have hz0 : w0.heap.size = w.heap.size + 4 := by rw [hw0]; simp only [sz_alloc]
  have hs0 : 0 ≤ s := by omega
  have hs1 : s ≤ 1 := by omega
  have hw3 : IntKind.i64.wrap (1 - s) = 1 - s := IntWalk.i64_in _ (by omega)
  refine calls_of_wp_marks Tryz.func52 rfl ?_
  simp only [Tryz.ntmps52, List.size_toArray, List.length_cons, List.length_nil, Nat.reduceAdd, Nat.reduceSub, Array.replicate_succ, Array.replicate_zero, List.push_toArray, List.append_toArray, List.nil_append, List.cons_append]
  have HW0 := Lib.hid hw0
  have HZ0 := Lib.hid hz0
  have HS := Lib.hid hs
  have HR := Lib.hid hrd
  have HA := Lib.hid hA
  have HP := Lib.hid hP
  clear hw0 hz0 hs hrd hA hP
  go_wp2_with fail
  rw [← HW0.out]
  refine (Bk.each_any (some ⟨b, 0, none⟩) (1 - s) _).mono ?_
  rintro e w8 ⟨rfl, hQ8, hI8, hb8⟩
  go_wp2_with fail
  have hzw := HZ0.out
  have hP8 := hP0.ext hb8
  have h68 := h60.ext hb8
  have h78 := h70.ext hb8
  have hN8 := hN0.ext hb8
  have hB8 := below_ext hb0 hb8
  have hz8 := hb8.size
  have S8 := S.ext hB8
  have h9 : ∀ r, w.heap.size ≤ r → c r = 9 := by
    obtain ⟨d, B, I⟩ := S
    exact fun r hr => B.out _ hr
  obtain ⟨nb, hnb⟩ : ∃ n, n = w.heap.size + 3 := ⟨_, rfl⟩
  obtain ⟨b6, hb6⟩ : ∃ n, n = w.heap.size + 1 := ⟨_, rfl⟩
  obtain ⟨b7, hb7⟩ : ∃ n, n = w.heap.size + 2 := ⟨_, rfl⟩
  have h9n : c nb = 9 := h9 _ (by omega)
  have hw1 : w.heap.size + 1 = b6 := hb6.symm
  have hw2 : w.heap.size + 2 = b7 := hb7.symm
  have hw4 : w.heap.size + 3 = nb := hnb.symm
  rw [hw1] at h68
  rw [hw2] at h78
  rw [hw4] at hN8
  have hq1 : w.heap.size + 1 + 1 = b7 := hw2
  have hq2 : w.heap.size + 1 + 1 + 1 = nb := hw4
  rw [hq2, hq1, hw1]
  have hfar : w.heap.size < b6 ∧ b6 < b7 ∧ b7 < nb ∧ nb < w8.heap.size := by omega
  have hseq := Lib.hid (Bk.beach_all S8 (1 - s) _ _ hQ8 hI8 [nb] [] (fun t h => by cases h) (fun q hq => by rw [List.mem_singleton.1 hq]; exact ⟨h9n, by omega⟩))
  have HRW := Lib.hid (HR.out.below hB8)
  clear hQ8 hI8 hb8 hzw hz8 S8 HZ0 HW0 S hP0 h60 h70 hN0 hb0 hnb hb6 hb7 hw1 hw2 hw4 hq1 hq2 h9 h9n HR hw3
  refine' wp_rangeFuncOF [nb] [] (gf := 101) (by rfl) (enters_of Tryz.func101 (by kernel_rfl) rfl) hseq.out (fun _ => rfl)
    (fun pre W => ∃ n, Mm fs nb w8.heap.size w8 W (pre.map (·.1)) n)
    (fun cd pre W => Mq fs b6 b7 w.heap.size w W (pre.map (·.1)) cd)
    ?I ?Ix ?h0 _ (fun x bx W => w8.heap.size ≤ bx ∧ Blk W bx 30 x.1.arr) ?hBx ?assign ?body ?done ?stop
  case I =>
    rintro pre W W' row ⟨n, h⟩ hg hr
    exact ⟨n, h.eq, h.le, h.N.own hg hr, Bk.kc_own w8 (Nat.le_refl _) (Nat.le_refl _) () W W' row h.low hg hr⟩
  case Ix =>
    rintro cd pre W W' row ⟨h1, p, h2, h3, h4, h5⟩ hg hr
    exact ⟨h1, p, h2, h3.own hg hr, h4.own hg hr, h5.trans (grown_below hg (by have := h5.size; omega) (fun q e => by have := (hr q e).1; have := hB8.size; omega))⟩
  case h0 => exact ⟨0, fun rest => rfl, Nat.zero_le _, hN8, Kc.refl _ _ _ _⟩
  case hBx =>
    rintro x bx _ W W' row ⟨h2, h3⟩ hg hr
    exact ⟨h2, h3.own hg hr⟩
  case assign =>
    intro l pre x W K hI hK
    obtain ⟨n, h⟩ := hI
    have hsz := h.low.low.size
    have hX0 : Blk (W.alloc (.cells Are.ord0.arr 30)) W.heap.size 30 Are.ord0.arr := Blk.new _ _ _ _ rfl
    unfold Bk.encO
    refine round_region_lit (by kernel_rfl) (fun ⟨_, _, h⟩ => h) ?_
    go_wp2_with (first | ((with_reducible show wpList _ _ _ (⟨_, .store 30 _ _, _, _, _, _⟩ :: _) _ _); refine wpList_store_blk (by rfl) 30 _ _ (by rfl) _ _ (by rfl) (by rfl) _ _ hX0 (by kernel_rfl) (by rfl) ?_ ?_; (next => first | (simp [Value.oneCell']; done) | (simp [Value.oneCell', Edt.cells]; done) | exact Are.ordArr_one _); intro W5 hX5 hU5) | fail)
    have hW5 : Below W.heap.size W W5 := below_upd (by (repeat (first | with_reducible exact Below.refl _ _ | (with_reducible assumption) | (with_reducible refine below_alloc ?_ _) | (with_reducible refine below_ext (w1 := ?_) ?_ ?_; rotate_left 2; (with_reducible assumption)) | (with_reducible refine Below.setCell ?_ ?_ _; rotate_left; ((try simp) <;> omega)) | (with_reducible refine Below.drew ?_) | (with_reducible refine below_drewN ?_ _) | fail))) (Nat.le_refl _) hU5
    try simp only [Act.put]
    obtain ⟨bx, hbe⟩ : ∃ b, b = W.heap.size := ⟨_, rfl⟩
    rw [← hbe] at hX5 ⊢
    have hk5 : Kc [nb] [] w8.heap.size W W5 := Kc.of_below hW5 hsz
    exact hK bx W5 (keepsFrom_below hW5) hk5 ⟨n, h.eq, h.le, h.N.ext hW5, h.low.trans hk5⟩ ⟨by omega, hX5⟩
  case body =>
    rintro l pre ⟨o, ho⟩ bx W ⟨n, M⟩ ⟨hbx, hX⟩ hlt2
    have hlow := M.low
    have hlw := hlow.low.size
    have hPW : Blk W w.heap.size 59 P := hlow.low_blk hP8 (by simp; omega) (by omega)
    have h6W : Blk W b6 2 #[.int .i64 0] := hlow.low_blk h68 (by simp; omega) (by omega)
    have h7W : Blk W b7 4 #[.bool false] := hlow.low_blk h78 (by simp; omega) (by omega)
    have hrW : Rd W 4 A (fs.map Fl.cells) := HRW.out.keep (fun a e => hlow.low.block _ (by have := HA.out a e; omega) (by simp; have := HA.out a e; omega))
    have hBW : Below w.heap.size w W := hB8.trans ⟨hlow.low.os, hlow.low.tape, hlow.low.output, hlow.low.size, fun q hq => hlow.low.block q (by omega) (by simp; omega)⟩
    have hN := M.N
    have hnl := M.le
    have lX := hX.lt
    have lN := hN.lt
    have lP := hPW.lt
    have l6 := h6W.lt
    have l7 := h7W.lt
    have n0 : W.cell? ⟨nb, 0, none⟩ = some (.int .i64 n) := hN.cell 0
    have p0 : W.cell? ⟨w.heap.size, 0, none⟩ = some (.slice A fs.length cap) := by have h := hPW.cell 0; rw [HP.out] at h; exact h
    have o0 : W.cell? ⟨bx, 0, none⟩ = some (.int .i64 o.id) := hX.cell 0
    have o3 : W.cell? ⟨bx, 3, none⟩ = some (.int .i64 o.price) := hX.cell 3
    have o4 : W.cell? ⟨bx, 4, none⟩ = some (.int .i64 o.qty) := hX.cell 4
    have hmap : (pre ++ [(⟨o, ho⟩ : Oo (1 - s) (osOf ss))]).map (·.1) = pre.map (·.1) ++ [o] := by simp
    have HM := Lib.hid M
    have HMP := Lib.hid hmap
    clear hmap hseq hP8 h68 h78 hN8 hlow M HRW HS
    have hno : (∀ hn : n < fs.length, ¬ (fs[n].id = o.id ∧ fs[n].qty = o.qty)) → ∀ rest, meetsO fs ((pre ++ [(⟨o, ho⟩ : Oo (1 - s) (osOf ss))]).map (·.1) ++ rest) = some o.price := fun h => by
      rw [HMP.out]
      exact meets_stop HM.out.eq h
    have HNO := Lib.hid hno
    clear hno
    by_cases hlt : n < fs.length
    · have e1 : (n : Int) < (fs.length : Int) := by omega
      have e2 : (0 : Int) ≤ (n : Int) := by omega
      have e3 : decide ((n : Int) < (fs.length : Int)) = true := decide_eq_true e1
      obtain ⟨ab, ao, rfl, hmid⟩ := Bk.rd_rngB hrW hlt
      have q0 : W.cell? ⟨ab, ao + n * 4, none⟩ = some (.int .i64 fs[n].id) := hmid 0 _ rfl
      have q2 : W.cell? ⟨ab, ao + n * 4 + 2, none⟩ = some (.int .i64 fs[n].qty) := hmid 2 _ rfl
      have lA : ab < W.heap.size := by have := HA.out _ rfl; simp at this; omega
      by_cases hid : fs[n].id = o.id
      · have k1 : (fs[n].id == o.id) = true := by simp [hid]
        by_cases hqt : fs[n].qty = o.qty
        · have k2 : (fs[n].qty == o.qty) = true := by simp [hqt]
          have HGO : Hid (∀ rest, meetsO fs ((pre ++ [(⟨o, ho⟩ : Oo (1 - s) (osOf ss))]).map (·.1) ++ rest) = meetsO (fs.drop (n + 1)) rest) := Lib.hid (by
            rw [HMP.out]
            exact meets_go HM.out.eq hlt hid hqt)
          have HLT := Lib.hid hlt
          clear hid hqt hmid hrW
          generalize fs[n].id = fid at *
          generalize fs[n].qty = fq at *
          refine wpIn_block ?_
          refine wpIn_seq ?_
          refine wpIn_seq ?_
          refine round_region_below_lit (by kernel_rfl) (by kernel_rfl) (fun ⟨_, _, h⟩ => h) (by kernel_rfl) ?_
          repeat (first | go_big_quiet_skip | (go_big_quiet_want; go_big_quiet_op; go_big_quiet_on) | (refine q_load_fld (by rfl) _ _ (by rfl) (fun _ h => h) _ _ (by rfl) ?_ ?_ ?_ ?_ ?_ ?_; rotate_left; (next => (repeat (first | (with_reducible refine BlkAt.new _ _ _ _ ?_; ((try simp) <;> omega)) | (with_reducible assumption) | (with_reducible refine Blk.at (t := ?_) ?_; rotate_left; with_reducible assumption) | with_reducible refine BlkAt.alloc ?_ _ | with_reducible refine BlkAt.drew ?_ | (with_reducible refine BlkAt.setSame ?_ _ _) | (with_reducible refine BlkAt.setCell ?_ ?_ _; rotate_left; ((try simp) <;> omega)) | (with_reducible refine BlkAt.ext (w := ?_) ?_ ?_; rotate_left 2; (with_reducible assumption)) | fail))); rotate_left; (next => first | (simp only [go_sem]; rfl) | rfl); (next => kernel_rfl); (try simp only [Act.put, List.setIfInBounds_toArray, List.set_cons_zero, List.set_cons_succ])) | (refine q_rem (by rfl) _ _ _ _ (by rfl) _ _ (by rfl) (by rfl) (by kernel_rfl) (by kernel_rfl) ?_ ?_; (next => omega); (try simp only [Act.put, List.setIfInBounds_toArray, List.set_cons_zero, List.set_cons_succ])) | (refine q_step_ex (by rfl) ?_; apply Exists.intro; refine ⟨fun W hW => ?_, ?_⟩; (next => (have hWc := fun (b o : Nat) (h : b < _) => (Ext.out hW).cell (p := ⟨b, o, none⟩) h); (try have hLK := HLK.out W (Ext.out hW)); go_simp; first | rfl | fail | fail); (try simp only [Act.put, List.setIfInBounds_toArray, List.set_cons_zero, List.set_cons_succ])) | fail)
          refine wpQuiet_nil ?_
          intro w9 hb9
          have n9 : w9.cell? ⟨nb, 0, none⟩ = some (.int .i64 n) := (hN.ext hb9).cell 0
          have f9 : w9.frozen? ⟨nb, 0, none⟩ = false := (hN.ext hb9).frozen 0
          gi_wp2_with fail
          have hkc : Kc [nb] [] w8.heap.size W (w9.setCell ⟨nb, 0, none⟩ (.int .i64 ((n : Int) + 1))) := (Kc.of_below hb9 hlw).trans (Sw.kc_updS (by simp) (Upd.setCell w9 ⟨nb, 0, none⟩ _))
          exact ⟨(keepsFrom_below hb9).trans ((KeepsOthers.setCell _ _ _).from _), hkc, n + 1, HGO.out, HLT.out, by push_cast; exact (hN.ext hb9).setCell 0 _, HM.out.low.trans hkc⟩
        · have k2 : (fs[n].qty == o.qty) = false := by simp [hqt]
          have HNO2 := Lib.hid (HNO.out (fun _ h => hqt h.2))
          clear hid hqt hmid hrW HNO
          generalize fs[n].id = fid at *
          generalize fs[n].qty = fq at *
          refine wpIn_block ?_
          refine wpIn_seq ?_
          refine wpIn_seq ?_
          refine round_region_below_lit (by kernel_rfl) (by kernel_rfl) (fun ⟨_, _, h⟩ => h) (by kernel_rfl) ?_
          repeat (first | go_big_quiet_skip | (go_big_quiet_want; go_big_quiet_op; go_big_quiet_on) | (refine q_load_fld (by rfl) _ _ (by rfl) (fun _ h => h) _ _ (by rfl) ?_ ?_ ?_ ?_ ?_ ?_; rotate_left; (next => (repeat (first | (with_reducible refine BlkAt.new _ _ _ _ ?_; ((try simp) <;> omega)) | (with_reducible assumption) | (with_reducible refine Blk.at (t := ?_) ?_; rotate_left; with_reducible assumption) | with_reducible refine BlkAt.alloc ?_ _ | with_reducible refine BlkAt.drew ?_ | (with_reducible refine BlkAt.setSame ?_ _ _) | (with_reducible refine BlkAt.setCell ?_ ?_ _; rotate_left; ((try simp) <;> omega)) | (with_reducible refine BlkAt.ext (w := ?_) ?_ ?_; rotate_left 2; (with_reducible assumption)) | fail))); rotate_left; (next => first | (simp only [go_sem]; rfl) | rfl); (next => kernel_rfl); (try simp only [Act.put, List.setIfInBounds_toArray, List.set_cons_zero, List.set_cons_succ])) | (refine q_rem (by rfl) _ _ _ _ (by rfl) _ _ (by rfl) (by rfl) (by kernel_rfl) (by kernel_rfl) ?_ ?_; (next => omega); (try simp only [Act.put, List.setIfInBounds_toArray, List.set_cons_zero, List.set_cons_succ])) | (refine q_step_ex (by rfl) ?_; apply Exists.intro; refine ⟨fun W hW => ?_, ?_⟩; (next => (have hWc := fun (b o : Nat) (h : b < _) => (Ext.out hW).cell (p := ⟨b, o, none⟩) h); (try have hLK := HLK.out W (Ext.out hW)); go_simp; first | rfl | fail | fail); (try simp only [Act.put, List.setIfInBounds_toArray, List.set_cons_zero, List.set_cons_succ])) | fail)
          refine wpQuiet_nil ?_
          intro w9 hb9
          have h69 := h6W.ext hb9
          have h79 := h7W.ext hb9
          have a6 : w9.cell? ⟨b6, 0, none⟩ = some (.int .i64 0) := h69.cell 0
          have g6 : w9.frozen? ⟨b6, 0, none⟩ = false := h69.frozen 0
          have a7 : w9.cell? ⟨b7, 0, none⟩ = some (.bool false) := h79.cell 0
          have g7 : w9.frozen? ⟨b7, 0, none⟩ = false := h79.frozen 0
          have o39 : w9.cell? ⟨bx, 3, none⟩ = some (.int .i64 o.price) := (Blk.ext hX hb9).cell 3
          have ne67 : b6 ≠ b7 := by omega
          gi_wp2_with fail
          have T := wr2_stop (zb := w8.heap.size) h69 h79 ne67 (by omega : w.heap.size ≤ b6) (by omega : w.heap.size ≤ b7) (below_ext hBW hb9) o.price
          exact ⟨(keepsFrom_below hb9).trans T.1, rfl, o.price, HNO2.out, T.2.1, T.2.2.1, T.2.2.2⟩
      · have k1 : (fs[n].id == o.id) = false := by simp [hid]
        have HNO2 := Lib.hid (HNO.out (fun _ h => hid h.1))
        clear hid hmid hrW HNO
        generalize fs[n].id = fid at *
        generalize fs[n].qty = fq at *
        refine wpIn_block ?_
        refine wpIn_seq ?_
        refine wpIn_seq ?_
        refine round_region_below_lit (by kernel_rfl) (by kernel_rfl) (fun ⟨_, _, h⟩ => h) (by kernel_rfl) ?_
        repeat (first | go_big_quiet_skip | (go_big_quiet_want; go_big_quiet_op; go_big_quiet_on) | (refine q_load_fld (by rfl) _ _ (by rfl) (fun _ h => h) _ _ (by rfl) ?_ ?_ ?_ ?_ ?_ ?_; rotate_left; (next => (repeat (first | (with_reducible refine BlkAt.new _ _ _ _ ?_; ((try simp) <;> omega)) | (with_reducible assumption) | (with_reducible refine Blk.at (t := ?_) ?_; rotate_left; with_reducible assumption) | with_reducible refine BlkAt.alloc ?_ _ | with_reducible refine BlkAt.drew ?_ | (with_reducible refine BlkAt.setSame ?_ _ _) | (with_reducible refine BlkAt.setCell ?_ ?_ _; rotate_left; ((try simp) <;> omega)) | (with_reducible refine BlkAt.ext (w := ?_) ?_ ?_; rotate_left 2; (with_reducible assumption)) | fail))); rotate_left; (next => first | (simp only [go_sem]; rfl) | rfl); (next => kernel_rfl); (try simp only [Act.put, List.setIfInBounds_toArray, List.set_cons_zero, List.set_cons_succ])) | (refine q_rem (by rfl) _ _ _ _ (by rfl) _ _ (by rfl) (by rfl) (by kernel_rfl) (by kernel_rfl) ?_ ?_; (next => omega); (try simp only [Act.put, List.setIfInBounds_toArray, List.set_cons_zero, List.set_cons_succ])) | (refine q_step_ex (by rfl) ?_; apply Exists.intro; refine ⟨fun W hW => ?_, ?_⟩; (next => (have hWc := fun (b o : Nat) (h : b < _) => (Ext.out hW).cell (p := ⟨b, o, none⟩) h); (try have hLK := HLK.out W (Ext.out hW)); go_simp; first | rfl | fail | fail); (try simp only [Act.put, List.setIfInBounds_toArray, List.set_cons_zero, List.set_cons_succ])) | fail)
        refine wpQuiet_nil ?_
        intro w9 hb9
        have h69 := h6W.ext hb9
        have h79 := h7W.ext hb9
        have a6 : w9.cell? ⟨b6, 0, none⟩ = some (.int .i64 0) := h69.cell 0
        have g6 : w9.frozen? ⟨b6, 0, none⟩ = false := h69.frozen 0
        have a7 : w9.cell? ⟨b7, 0, none⟩ = some (.bool false) := h79.cell 0
        have g7 : w9.frozen? ⟨b7, 0, none⟩ = false := h79.frozen 0
        have o39 : w9.cell? ⟨bx, 3, none⟩ = some (.int .i64 o.price) := (Blk.ext hX hb9).cell 3
        have ne67 : b6 ≠ b7 := by omega
        gi_wp2_with fail
        have T := wr2_stop (zb := w8.heap.size) h69 h79 ne67 (by omega : w.heap.size ≤ b6) (by omega : w.heap.size ≤ b7) (below_ext hBW hb9) o.price
        exact ⟨(keepsFrom_below hb9).trans T.1, rfl, o.price, HNO2.out, T.2.1, T.2.2.1, T.2.2.2⟩
    · have e1 : ¬ (n : Int) < (fs.length : Int) := by omega
      have e3 : decide ((n : Int) < (fs.length : Int)) = false := decide_eq_false e1
      have e4 : decide (n < fs.length) = false := decide_eq_false hlt
      have HNO2 := Lib.hid (HNO.out (fun h => absurd h hlt))
      clear hrW HNO
      refine wpIn_block ?_
      refine wpIn_seq ?_
      refine wpIn_seq ?_
      refine round_region_below_lit (by kernel_rfl) (by kernel_rfl) (fun ⟨_, _, h⟩ => h) (by kernel_rfl) ?_
      repeat (first | go_big_quiet_skip | (go_big_quiet_want; go_big_quiet_op; go_big_quiet_on) | (refine q_load_fld (by rfl) _ _ (by rfl) (fun _ h => h) _ _ (by rfl) ?_ ?_ ?_ ?_ ?_ ?_; rotate_left; (next => (repeat (first | (with_reducible refine BlkAt.new _ _ _ _ ?_; ((try simp) <;> omega)) | (with_reducible assumption) | (with_reducible refine Blk.at (t := ?_) ?_; rotate_left; with_reducible assumption) | with_reducible refine BlkAt.alloc ?_ _ | with_reducible refine BlkAt.drew ?_ | (with_reducible refine BlkAt.setSame ?_ _ _) | (with_reducible refine BlkAt.setCell ?_ ?_ _; rotate_left; ((try simp) <;> omega)) | (with_reducible refine BlkAt.ext (w := ?_) ?_ ?_; rotate_left 2; (with_reducible assumption)) | fail))); rotate_left; (next => first | (simp only [go_sem]; rfl) | rfl); (next => kernel_rfl); (try simp only [Act.put, List.setIfInBounds_toArray, List.set_cons_zero, List.set_cons_succ])) | (refine q_rem (by rfl) _ _ _ _ (by rfl) _ _ (by rfl) (by rfl) (by kernel_rfl) (by kernel_rfl) ?_ ?_; (next => omega); (try simp only [Act.put, List.setIfInBounds_toArray, List.set_cons_zero, List.set_cons_succ])) | (refine q_step_ex (by rfl) ?_; apply Exists.intro; refine ⟨fun W hW => ?_, ?_⟩; (next => (have hWc := fun (b o : Nat) (h : b < _) => (Ext.out hW).cell (p := ⟨b, o, none⟩) h); (try have hLK := HLK.out W (Ext.out hW)); go_simp; first | rfl | fail | fail); (try simp only [Act.put, List.setIfInBounds_toArray, List.set_cons_zero, List.set_cons_succ])) | fail)
      refine wpQuiet_nil ?_
      intro w9 hb9
      have h69 := h6W.ext hb9
      have h79 := h7W.ext hb9
      have a6 : w9.cell? ⟨b6, 0, none⟩ = some (.int .i64 0) := h69.cell 0
      have g6 : w9.frozen? ⟨b6, 0, none⟩ = false := h69.frozen 0
      have a7 : w9.cell? ⟨b7, 0, none⟩ = some (.bool false) := h79.cell 0
      have g7 : w9.frozen? ⟨b7, 0, none⟩ = false := h79.frozen 0
      have o39 : w9.cell? ⟨bx, 3, none⟩ = some (.int .i64 o.price) := (Blk.ext hX hb9).cell 3
      have ne67 : b6 ≠ b7 := by omega
      gi_wp2_with fail
      have T := wr2_stop (zb := w8.heap.size) h69 h79 ne67 (by omega : w.heap.size ≤ b6) (by omega : w.heap.size ≤ b7) (below_ext hBW hb9) o.price
      exact ⟨(keepsFrom_below hb9).trans T.1, rfl, o.price, HNO2.out, T.2.1, T.2.2.1, T.2.2.2⟩
  case done =>
    rintro D ys W hD hys ⟨n, M⟩ hK
    have hlow := M.low
    have hlw := hlow.low.size
    have h6W : Blk W b6 2 #[.int .i64 0] := hlow.low_blk h68 (by simp; omega) (by omega)
    have h7W : Blk W b7 4 #[.bool false] := hlow.low_blk h78 (by simp; omega) (by omega)
    have hBW : Below w.heap.size w W := hB8.trans ⟨hlow.low.os, hlow.low.tape, hlow.low.output, hlow.low.size, fun q hq => hlow.low.block q (by omega) (by simp; omega)⟩
    have hres : meetsO fs (srt (1 - s) (osOf ss)) = none := by
      have h := M.eq []
      rw [List.append_nil, hys, meetsO_nil] at h
      exact h
    have HRS := Lib.hid hres
    have a6 : W.cell? ⟨b6, 0, none⟩ = some (.int .i64 0) := h6W.cell 0
    have g6 : W.frozen? ⟨b6, 0, none⟩ = false := h6W.frozen 0
    have a7 : W.cell? ⟨b7, 0, none⟩ = some (.bool false) := h7W.cell 0
    have g7 : W.frozen? ⟨b7, 0, none⟩ = false := h7W.frozen 0
    have ne67 : b6 ≠ b7 := by omega
    have hKl : D < W.heap.size := (Array.getElem?_eq_some_iff.1 hK).1
    clear hseq hlow M hres
    go_wp2_with fail
    rw [HRS.out]
    have u1 := Upd.setCell W ⟨b6, 0, none⟩ (.int .i64 0)
    have u2 := Upd.setCell (W.setCell ⟨b6, 0, none⟩ (.int .i64 0)) ⟨b7, 0, none⟩ (.bool false)
    have k6 := (h6W.setCell 0 (.int .i64 0)).upd ne67 u2
    have k7 := (h7W.upd (Ne.symm ne67) u1).setCell 0 (.bool false)
    have hK2 := (u2.block D (by show D ≠ b7; omega)).trans ((u1.block D (by show D ≠ b6; omega)).trans hK)
    exact bodyPostM_ret rfl hK2 (results_two rfl _ _ _ b6 0 b7 0 _ _ (by rfl) (by rfl) (by kernel_rfl) (by kernel_rfl) ((cell_mark (by omega)).trans (k6.cell 0)) ((cell_mark (by omega)).trans (k7.cell 0))) ⟨rfl, below_mark (below_upd (below_upd hBW (show w.heap.size ≤ b6 by omega) u1) (show w.heap.size ≤ b7 by omega) u2) (by omega) hK2⟩
  case stop =>
    rintro D cd pre W hD hp ⟨rfl, p, h2, h3, h4, h5⟩ hK
    have hres : meetsO fs (srt (1 - s) (osOf ss)) = some p := by
      obtain ⟨rest, h⟩ := hp
      rw [← h]
      exact h2 rest
    have HRS := Lib.hid hres
    clear hseq hres h2
    go_wp2_with fail
    rw [HRS.out]
    exact bodyPostM_ret rfl hK (results_two rfl _ _ _ b6 0 b7 0 _ _ (by rfl) (by rfl) (by kernel_rfl) (by kernel_rfl) ((cell_mark (by omega)).trans (h3.cell 0)) ((cell_mark (by omega)).trans (h4.cell 0))) ⟨rfl, below_mark h5 (by omega) hK⟩
end
end Ma
end Go.Proofs.YtbnappiaomiciaaGreat
namespace Go.Proofs.YtbnappiaomiciaaGreat
set_option linter.unusedVariables false
open Go.RowKit
namespace Ma
set_option maxHeartbeats 4000000
set_option maxRecDepth 10000
open Bk (bet Bs osOf srt Sl)
open Sw (Tk Fl mk mkP MkPost)
theorem mk_len (t : Tk) : ∀ (l : List Ord) (q : Int), (mk t l q).1.length ≤ l.length
  | [], q => by simp [mk]
  | o :: l, q => by
    unfold mk
    split
    · simp
    · split
      · simp
      · split
        · simp
        · split
          · have := mk_len t l (q - min q o.qty)
            simpa using this
          · split
            · simp
            · split
              · simp
              · have := mk_len t l q
                simpa using this
theorem mkP_len (t : Tk) (os : List Ord) : (mkP t os).1.length ≤ os.length := by
  unfold mkP
  split
  · exact Nat.le_trans (mk_len _ _ _) (Sw.srt_le _ _)
  · exact Nat.zero_le _
theorem built_tk (s o l q lo hi f : Int) : Tryz.prog.built 104 [(0, .int .i64 s), (1, .int .i64 o), (2, .int .i64 l), (3, .int .i64 q), (4, .agg #[.int .i64 lo, .int .i64 hi]), (5, .int .i64 f)] = some (Tk.mk s o l q lo hi f).arr := by kernel_rfl
section
variable {w : World} {c : Nat → Nat} {b N most k : Nat} {ss : List Sl}
theorem plan_any (S : Bs w c b N most k ss) (e : En) (hq : e.o.qty ≤ 9223372036854775807) : Calls Tryz.prog 15 #[.agg e.arr, .pointer (some ⟨b, 0, none⟩)] w (MkPost w (mkP (tkE e) (osOf ss))) := by
  have hE0 : Blk ((w.alloc (.cells e.arr 37)).alloc (.cells #[.slice none 0 0, .int .i64 0, .int .i64 0] 59)) w.heap.size 37 e.arr := (Blk.new w _ _ _ rfl).alloc _
  have hP0 : Blk ((w.alloc (.cells e.arr 37)).alloc (.cells #[.slice none 0 0, .int .i64 0, .int .i64 0] 59)) (w.heap.size + 1) 59 #[.slice none 0 0, .int .i64 0, .int .i64 0] := Blk.new _ _ _ _ (sz_alloc _ _)
  have hb0 : Below w.heap.size w ((w.alloc (.cells e.arr 37)).alloc (.cells #[.slice none 0 0, .int .i64 0, .int .i64 0] 59)) := by (repeat (first | with_reducible exact Below.refl _ _ | (with_reducible assumption) | (with_reducible refine below_alloc ?_ _) | (with_reducible refine below_ext (w1 := ?_) ?_ ?_; rotate_left 2; (with_reducible assumption)) | (with_reducible refine Below.setCell ?_ ?_ _; rotate_left; ((try simp) <;> omega)) | (with_reducible refine Below.drew ?_) | (with_reducible refine below_drewN ?_ _) | fail))
  have HL := Lib.hid (fun W => limit_any e W)
  have HMK := Lib.hid (fun W (hW : Below w.heap.size w W) => Sw.make_any (S.ext hW) (tkE e) hq)
  have hband : ((w.alloc (.cells e.arr 37)).alloc (.cells #[.slice none 0 0, .int .i64 0, .int .i64 0] 59)).rangeAt w.heap.size 8 [.int .i64 e.lo, .int .i64 e.hi] := fun j v hv => by
    rw [hE0.cell]
    match j, hv with
    | 0, hv => exact hv
    | 1, hv => exact hv
    | n + 2, hv => simp at hv
  have HT := Lib.hid (show tkE e = ⟨e.o.side, e.o.owner, limF e, e.o.qty, e.lo, e.hi, e.self⟩ from rfl)
  go_enter Tryz.func15, Tryz.ntmps15
  go_wp2_with fail
  refine wp_region_below_tail 17 (by kernel_rfl) (by kernel_rfl) ?_
  simp only [List.take_succ_cons, List.take_zero, List.drop_succ_cons, List.drop_zero]
  repeat (first | (refine q_build (by rfl) _ _ (by rfl) ?_ ?_ ?_; rotate_left; (next => simp only [List.map_toArray, List.map_cons, List.map_nil, go_sem]; exact built_tk); (try simp only [Act.put, List.setIfInBounds_toArray, List.set_cons_zero, List.set_cons_succ])) | go_big_quiet_skip | (go_big_quiet_want; go_big_quiet_op; go_big_quiet_on) | (refine q_load_mid (by rfl) _ _ (by rfl) (fun _ h => h) _ _ (by rfl) _ _ hband Tryz.underlying35 rfl (by kernel_rfl) ?_; (try simp only [Act.put, List.setIfInBounds_toArray, List.set_cons_zero, List.set_cons_succ])) | (refine q_load_blk (by rfl) 37 _ (by rfl) ?_ (.pointer (some ⟨_, 0, none⟩)) (by rfl) ?_ _ (fun _ h => h) Tryz.underlying37 rfl ?_ ?_; rotate_left; (next => (repeat (first | (with_reducible refine BlkAt.new _ _ _ _ ?_; ((try simp) <;> omega)) | (with_reducible assumption) | (with_reducible refine Blk.at (t := ?_) ?_; rotate_left; with_reducible assumption) | with_reducible refine BlkAt.alloc ?_ _ | with_reducible refine BlkAt.drew ?_ | (with_reducible refine BlkAt.setSame ?_ _ _) | (with_reducible refine BlkAt.setCell ?_ ?_ _; rotate_left; ((try simp) <;> omega)) | (with_reducible refine BlkAt.ext (w := ?_) ?_ ?_; rotate_left 2; (with_reducible assumption)) | fail))); (next => kernel_rfl); (try simp only [Act.put, List.setIfInBounds_toArray, List.set_cons_zero, List.set_cons_succ])) | (refine q_load_fld (by rfl) _ _ (by rfl) (fun _ h => h) _ _ (by rfl) ?_ ?_ ?_ ?_ ?_ ?_; rotate_left; (next => (repeat (first | (with_reducible refine BlkAt.new _ _ _ _ ?_; ((try simp) <;> omega)) | (with_reducible assumption) | (with_reducible refine Blk.at (t := ?_) ?_; rotate_left; with_reducible assumption) | with_reducible refine BlkAt.alloc ?_ _ | with_reducible refine BlkAt.drew ?_ | (with_reducible refine BlkAt.setSame ?_ _ _) | (with_reducible refine BlkAt.setCell ?_ ?_ _; rotate_left; ((try simp) <;> omega)) | (with_reducible refine BlkAt.ext (w := ?_) ?_ ?_; rotate_left 2; (with_reducible assumption)) | fail))); rotate_left; (next => first | (simp only [go_sem]; rfl) | rfl); (next => kernel_rfl); (try simp only [Act.put, List.setIfInBounds_toArray, List.set_cons_zero, List.set_cons_succ])) | (refine q_rem (by rfl) _ _ _ _ (by rfl) _ _ (by rfl) (by rfl) (by kernel_rfl) (by kernel_rfl) ?_ ?_; (next => omega); (try simp only [Act.put, List.setIfInBounds_toArray, List.set_cons_zero, List.set_cons_succ])) | (refine q_step_ex (by rfl) ?_; apply Exists.intro; refine ⟨fun W hW => ?_, ?_⟩; (next => (have hWc := fun (b o : Nat) (h : b < _) => (Ext.out hW).cell (p := ⟨b, o, none⟩) h); (try have hLK := HLK.out W (Ext.out hW)); go_simp; first | rfl | (go_at_call 49; refine (HL.out _).mono ?_; rintro x w'' ⟨rfl, hb2⟩; exact ⟨rfl, below_ext hW hb2⟩) | fail); (try simp only [Act.put, List.setIfInBounds_toArray, List.set_cons_zero, List.set_cons_succ])) | fail)
  refine wpQuiet_nil ?_
  intro w1 hb1
  have hb01 := below_ext hb0 hb1
  have hP1 := hP0.ext hb1
  clear hE0 hP0 hb0 hband hb1
  go_wp2_with (first | (go_at_call 48; refine (HMK.out _ hb01).mono ?_; rintro x w2 ⟨⟨v, rfl, hown2⟩, hb2⟩; have hP2 := hP1.ext hb2; obtain ⟨A2, cp2, rfl⟩ := Sw.owns_slice hown2) | ((with_reducible show wpList _ _ _ (⟨_, .store 59 _ _, _, _, _, _⟩ :: _) _ _); refine wpList_store_blk (by rfl) 59 _ _ (by rfl) _ _ (by rfl) (by rfl) _ _ hP2 (by kernel_rfl) (by rfl) ?_ ?_; (next => first | (simp [Value.oneCell']; done) | (simp [Value.oneCell', Edt.cells]; done) | exact Are.ordArr_one _); intro w3 hP3 hU3) | fail)
  refine bodyPost_ret (Sw.results_plan rfl _ _ (w.heap.size + 1) _ (by rfl) hP3 rfl) rfl ⟨⟨_, rfl, Sw.owns_upd (Sw.owns_mono hown2 hb01.size) hP2 (by decide) hU3⟩, below_upd (below_ext hb01 hb2) (by omega) hU3⟩
/-- Whether what a plan leaves rests. -/
theorem rests_any (S : Bs w c b N most k ss) (e : En) (hs : e.o.side = 0 ∨ e.o.side = 1) {fs : List Fl} {A : Option Addr} {cap : Nat} (hrd : Rd w 4 A (fs.map Fl.cells)) (hA : ∀ a, A = some a → a.block < w.heap.size) (hfl : fs.length ≤ 500) (left stop : Int) :
    Calls Tryz.prog 16 #[.agg e.arr, .pointer (some ⟨b, 0, none⟩), .agg #[.slice A fs.length cap, .int .i64 left, .int .i64 stop]] w fun x w' => x = .returned (.bool (restsF (osOf ss) e (fs, left, stop))) ∧ Below w.heap.size w w' := by
  have HS := Lib.hid (fun W => stays_any e W)
  have HB := Lib.hid (fun W => beyond_any e (edgeF e) W)
  have HE := Lib.hid (fun W => edge_any e W)
  have HM := Lib.hid (fun W (hW : Below w.heap.size w W) => meets_any (S.ext hW) e.o.side hs (hrd.below hW) (fun a h => Nat.lt_of_lt_of_le (hA a h) hW.size) (cap := cap) hfl left stop)
  have HBT := Lib.hid (fun q W => Bk.better_any e.o.side q (edgeF e) W)
  have hR : restsF (osOf ss) e (fs, left, stop) = (!(left == 0 || stop == 3 || !staysF e || decide (edgeF e < 1) || decide (1099511627776 < edgeF e) || beyF e.o.side e.lo e.hi (edgeF e)) && openF e.o.side (edgeF e) (meetsO fs (srt (1 - e.o.side) (osOf ss)))) := by
    unfold restsF
    congr 1
    rw [Bool.eq_iff_iff]
    simp
    constructor
    · rintro ⟨h1, h2, h3, h4, h5, h6⟩
      exact ⟨⟨⟨⟨⟨h1, h2⟩, h3⟩, by omega⟩, by omega⟩, h6⟩
    · rintro ⟨⟨⟨⟨⟨h1, h2⟩, h3⟩, h4⟩, h5⟩, h6⟩
      exact ⟨h1, h2, h3, by omega, by omega, h6⟩
  rw [hR]
  clear hR S hrd hA hfl
  generalize meetsO fs (srt (1 - e.o.side) (osOf ss)) = mo at *
  generalize beyF e.o.side e.lo e.hi (edgeF e) = bd at *
  generalize edgeF e = ed at *
  generalize staysF e = st at *
  generalize hop : openF e.o.side ed mo = op
  have HOP := Lib.hid hop
  clear hop
  by_cases h1 : left = 0
  · have b1 : (left == 0) = true := by simp [h1]
    clear h1
    go_enter Tryz.func16, Tryz.ntmps16
    go_wp2_with (first | ((with_reducible show wpList _ _ _ (⟨_, .load 37 _, _, _, _, _⟩ :: _) _ _); refine wpList_load_ho 37 _ (by rfl) (by rfl) ?_ (.pointer (some ⟨_, 0, none⟩)) (by rfl) ?_ _ Tryz.underlying37 rfl ?_ ?_; rotate_left; (next => (repeat (first | (with_reducible refine BlkAt.new _ _ _ _ ?_; ((try simp) <;> omega)) | (with_reducible assumption) | (with_reducible refine Blk.at (t := ?_) ?_; rotate_left; with_reducible assumption) | with_reducible refine BlkAt.alloc ?_ _ | with_reducible refine BlkAt.drew ?_ | (with_reducible refine BlkAt.setSame ?_ _ _) | (with_reducible refine BlkAt.setCell ?_ ?_ _; rotate_left; ((try simp) <;> omega)) | (with_reducible refine BlkAt.ext (w := ?_) ?_ ?_; rotate_left 2; (with_reducible assumption)) | fail))); (next => kernel_rfl)) | (go_at_call 19; refine (HE.out _).mono ?_; rintro e w2 ⟨rfl, hb2⟩; (have hcb2 := fun (b o : Nat) (h : b < _) => hb2.cell (p := ⟨b, o, none⟩) h)) | fail)
    go_ret
    exact ⟨ret_bool (by simp [b1]), by (repeat (first | with_reducible exact Below.refl _ _ | (with_reducible assumption) | (with_reducible refine below_alloc ?_ _) | (with_reducible refine below_ext (w1 := ?_) ?_ ?_; rotate_left 2; (with_reducible assumption)) | (with_reducible refine Below.setCell ?_ ?_ _; rotate_left; ((try simp) <;> omega)) | (with_reducible refine Below.drew ?_) | (with_reducible refine below_drewN ?_ _) | fail))⟩
  have b1 : (left == 0) = false := by simp [h1]
  by_cases h2 : stop = 3
  · have b2 : (stop == 3) = true := by simp [h2]
    clear h1 h2
    go_enter Tryz.func16, Tryz.ntmps16
    go_wp2_with (first | ((with_reducible show wpList _ _ _ (⟨_, .load 37 _, _, _, _, _⟩ :: _) _ _); refine wpList_load_ho 37 _ (by rfl) (by rfl) ?_ (.pointer (some ⟨_, 0, none⟩)) (by rfl) ?_ _ Tryz.underlying37 rfl ?_ ?_; rotate_left; (next => (repeat (first | (with_reducible refine BlkAt.new _ _ _ _ ?_; ((try simp) <;> omega)) | (with_reducible assumption) | (with_reducible refine Blk.at (t := ?_) ?_; rotate_left; with_reducible assumption) | with_reducible refine BlkAt.alloc ?_ _ | with_reducible refine BlkAt.drew ?_ | (with_reducible refine BlkAt.setSame ?_ _ _) | (with_reducible refine BlkAt.setCell ?_ ?_ _; rotate_left; ((try simp) <;> omega)) | (with_reducible refine BlkAt.ext (w := ?_) ?_ ?_; rotate_left 2; (with_reducible assumption)) | fail))); (next => kernel_rfl)) | (go_at_call 19; refine (HE.out _).mono ?_; rintro e w2 ⟨rfl, hb2⟩; (have hcb2 := fun (b o : Nat) (h : b < _) => hb2.cell (p := ⟨b, o, none⟩) h)) | fail)
    go_ret
    exact ⟨ret_bool (by simp [b2]), by (repeat (first | with_reducible exact Below.refl _ _ | (with_reducible assumption) | (with_reducible refine below_alloc ?_ _) | (with_reducible refine below_ext (w1 := ?_) ?_ ?_; rotate_left 2; (with_reducible assumption)) | (with_reducible refine Below.setCell ?_ ?_ _; rotate_left; ((try simp) <;> omega)) | (with_reducible refine Below.drew ?_) | (with_reducible refine below_drewN ?_ _) | fail))⟩
  have b2 : (stop == 3) = false := by simp [h2]
  clear h1 h2
  cases st with
  | false =>
    go_enter Tryz.func16, Tryz.ntmps16
    go_wp2_with (first | ((with_reducible show wpList _ _ _ (⟨_, .load 37 _, _, _, _, _⟩ :: _) _ _); refine wpList_load_ho 37 _ (by rfl) (by rfl) ?_ (.pointer (some ⟨_, 0, none⟩)) (by rfl) ?_ _ Tryz.underlying37 rfl ?_ ?_; rotate_left; (next => (repeat (first | (with_reducible refine BlkAt.new _ _ _ _ ?_; ((try simp) <;> omega)) | (with_reducible assumption) | (with_reducible refine Blk.at (t := ?_) ?_; rotate_left; with_reducible assumption) | with_reducible refine BlkAt.alloc ?_ _ | with_reducible refine BlkAt.drew ?_ | (with_reducible refine BlkAt.setSame ?_ _ _) | (with_reducible refine BlkAt.setCell ?_ ?_ _; rotate_left; ((try simp) <;> omega)) | (with_reducible refine BlkAt.ext (w := ?_) ?_ ?_; rotate_left 2; (with_reducible assumption)) | fail))); (next => kernel_rfl)) | (go_at_call 19; refine (HE.out _).mono ?_; rintro e w2 ⟨rfl, hb2⟩; (have hcb2 := fun (b o : Nat) (h : b < _) => hb2.cell (p := ⟨b, o, none⟩) h)) | (go_at_call 50; refine (HS.out _).mono ?_; rintro e w3 ⟨rfl, hb3⟩; (have hcb3 := fun (b o : Nat) (h : b < _) => hb3.cell (p := ⟨b, o, none⟩) h)) | fail)
    go_ret
    exact ⟨ret_bool (by simp), by (repeat (first | with_reducible exact Below.refl _ _ | (with_reducible assumption) | (with_reducible refine below_alloc ?_ _) | (with_reducible refine below_ext (w1 := ?_) ?_ ?_; rotate_left 2; (with_reducible assumption)) | (with_reducible refine Below.setCell ?_ ?_ _; rotate_left; ((try simp) <;> omega)) | (with_reducible refine Below.drew ?_) | (with_reducible refine below_drewN ?_ _) | fail))⟩
  | true =>
    by_cases h3 : ed < 1
    · have b3 : decide (ed < 1) = true := decide_eq_true h3
      go_enter Tryz.func16, Tryz.ntmps16
      go_wp2_with (first | ((with_reducible show wpList _ _ _ (⟨_, .load 37 _, _, _, _, _⟩ :: _) _ _); refine wpList_load_ho 37 _ (by rfl) (by rfl) ?_ (.pointer (some ⟨_, 0, none⟩)) (by rfl) ?_ _ Tryz.underlying37 rfl ?_ ?_; rotate_left; (next => (repeat (first | (with_reducible refine BlkAt.new _ _ _ _ ?_; ((try simp) <;> omega)) | (with_reducible assumption) | (with_reducible refine Blk.at (t := ?_) ?_; rotate_left; with_reducible assumption) | with_reducible refine BlkAt.alloc ?_ _ | with_reducible refine BlkAt.drew ?_ | (with_reducible refine BlkAt.setSame ?_ _ _) | (with_reducible refine BlkAt.setCell ?_ ?_ _; rotate_left; ((try simp) <;> omega)) | (with_reducible refine BlkAt.ext (w := ?_) ?_ ?_; rotate_left 2; (with_reducible assumption)) | fail))); (next => kernel_rfl)) | (go_at_call 19; refine (HE.out _).mono ?_; rintro e w2 ⟨rfl, hb2⟩; (have hcb2 := fun (b o : Nat) (h : b < _) => hb2.cell (p := ⟨b, o, none⟩) h)) | (go_at_call 50; refine (HS.out _).mono ?_; rintro e w3 ⟨rfl, hb3⟩; (have hcb3 := fun (b o : Nat) (h : b < _) => hb3.cell (p := ⟨b, o, none⟩) h)) | fail)
      go_ret
      exact ⟨ret_bool (by simp [b3]), by (repeat (first | with_reducible exact Below.refl _ _ | (with_reducible assumption) | (with_reducible refine below_alloc ?_ _) | (with_reducible refine below_ext (w1 := ?_) ?_ ?_; rotate_left 2; (with_reducible assumption)) | (with_reducible refine Below.setCell ?_ ?_ _; rotate_left; ((try simp) <;> omega)) | (with_reducible refine Below.drew ?_) | (with_reducible refine below_drewN ?_ _) | fail))⟩
    have b3 : decide (ed < 1) = false := decide_eq_false h3
    by_cases h4 : 1099511627776 < ed
    · have b4 : decide (1099511627776 < ed) = true := decide_eq_true h4
      go_enter Tryz.func16, Tryz.ntmps16
      go_wp2_with (first | ((with_reducible show wpList _ _ _ (⟨_, .load 37 _, _, _, _, _⟩ :: _) _ _); refine wpList_load_ho 37 _ (by rfl) (by rfl) ?_ (.pointer (some ⟨_, 0, none⟩)) (by rfl) ?_ _ Tryz.underlying37 rfl ?_ ?_; rotate_left; (next => (repeat (first | (with_reducible refine BlkAt.new _ _ _ _ ?_; ((try simp) <;> omega)) | (with_reducible assumption) | (with_reducible refine Blk.at (t := ?_) ?_; rotate_left; with_reducible assumption) | with_reducible refine BlkAt.alloc ?_ _ | with_reducible refine BlkAt.drew ?_ | (with_reducible refine BlkAt.setSame ?_ _ _) | (with_reducible refine BlkAt.setCell ?_ ?_ _; rotate_left; ((try simp) <;> omega)) | (with_reducible refine BlkAt.ext (w := ?_) ?_ ?_; rotate_left 2; (with_reducible assumption)) | fail))); (next => kernel_rfl)) | (go_at_call 19; refine (HE.out _).mono ?_; rintro e w2 ⟨rfl, hb2⟩; (have hcb2 := fun (b o : Nat) (h : b < _) => hb2.cell (p := ⟨b, o, none⟩) h)) | (go_at_call 50; refine (HS.out _).mono ?_; rintro e w3 ⟨rfl, hb3⟩; (have hcb3 := fun (b o : Nat) (h : b < _) => hb3.cell (p := ⟨b, o, none⟩) h)) | fail)
      go_ret
      exact ⟨ret_bool (by simp [b4]), by (repeat (first | with_reducible exact Below.refl _ _ | (with_reducible assumption) | (with_reducible refine below_alloc ?_ _) | (with_reducible refine below_ext (w1 := ?_) ?_ ?_; rotate_left 2; (with_reducible assumption)) | (with_reducible refine Below.setCell ?_ ?_ _; rotate_left; ((try simp) <;> omega)) | (with_reducible refine Below.drew ?_) | (with_reducible refine below_drewN ?_ _) | fail))⟩
    have b4 : decide (1099511627776 < ed) = false := decide_eq_false h4
    cases bd with
    | true =>
      go_enter Tryz.func16, Tryz.ntmps16
      go_wp2_with (first | ((with_reducible show wpList _ _ _ (⟨_, .load 37 _, _, _, _, _⟩ :: _) _ _); refine wpList_load_ho 37 _ (by rfl) (by rfl) ?_ (.pointer (some ⟨_, 0, none⟩)) (by rfl) ?_ _ Tryz.underlying37 rfl ?_ ?_; rotate_left; (next => (repeat (first | (with_reducible refine BlkAt.new _ _ _ _ ?_; ((try simp) <;> omega)) | (with_reducible assumption) | (with_reducible refine Blk.at (t := ?_) ?_; rotate_left; with_reducible assumption) | with_reducible refine BlkAt.alloc ?_ _ | with_reducible refine BlkAt.drew ?_ | (with_reducible refine BlkAt.setSame ?_ _ _) | (with_reducible refine BlkAt.setCell ?_ ?_ _; rotate_left; ((try simp) <;> omega)) | (with_reducible refine BlkAt.ext (w := ?_) ?_ ?_; rotate_left 2; (with_reducible assumption)) | fail))); (next => kernel_rfl)) | (go_at_call 19; refine (HE.out _).mono ?_; rintro e w2 ⟨rfl, hb2⟩; (have hcb2 := fun (b o : Nat) (h : b < _) => hb2.cell (p := ⟨b, o, none⟩) h)) | (go_at_call 50; refine (HS.out _).mono ?_; rintro e w3 ⟨rfl, hb3⟩; (have hcb3 := fun (b o : Nat) (h : b < _) => hb3.cell (p := ⟨b, o, none⟩) h)) | (go_at_call 51; refine (HB.out _).mono ?_; rintro e w4 ⟨rfl, hb4⟩; (have hcb4 := fun (b o : Nat) (h : b < _) => hb4.cell (p := ⟨b, o, none⟩) h)) | fail)
      go_ret
      exact ⟨ret_bool (by simp), by (repeat (first | with_reducible exact Below.refl _ _ | (with_reducible assumption) | (with_reducible refine below_alloc ?_ _) | (with_reducible refine below_ext (w1 := ?_) ?_ ?_; rotate_left 2; (with_reducible assumption)) | (with_reducible refine Below.setCell ?_ ?_ _; rotate_left; ((try simp) <;> omega)) | (with_reducible refine Below.drew ?_) | (with_reducible refine below_drewN ?_ _) | fail))⟩
    | false =>
      have hE0 : Blk ((w.alloc (.cells e.arr 37)).alloc (.cells #[.slice A fs.length cap, .int .i64 left, .int .i64 stop] 59)) w.heap.size 37 e.arr := (Blk.new w _ _ _ rfl).alloc _
      have hP0 : Blk ((w.alloc (.cells e.arr 37)).alloc (.cells #[.slice A fs.length cap, .int .i64 left, .int .i64 stop] 59)) (w.heap.size + 1) 59 #[.slice A fs.length cap, .int .i64 left, .int .i64 stop] := Blk.new _ _ _ _ (sz_alloc _ _)
      have hb0 : Below w.heap.size w ((w.alloc (.cells e.arr 37)).alloc (.cells #[.slice A fs.length cap, .int .i64 left, .int .i64 stop] 59)) := by (repeat (first | with_reducible exact Below.refl _ _ | (with_reducible assumption) | (with_reducible refine below_alloc ?_ _) | (with_reducible refine below_ext (w1 := ?_) ?_ ?_; rotate_left 2; (with_reducible assumption)) | (with_reducible refine Below.setCell ?_ ?_ _; rotate_left; ((try simp) <;> omega)) | (with_reducible refine Below.drew ?_) | (with_reducible refine below_drewN ?_ _) | fail))
      cases mo with
      | none =>
        have ho : op = true := by rw [← HOP.out]; rfl
        have HO := Lib.hid ho
        clear ho
        go_enter Tryz.func16, Tryz.ntmps16
        go_wp2_with (first | ((with_reducible show wpList _ _ _ (⟨_, .load 37 _, _, _, _, _⟩ :: _) _ _); refine wpList_load_ho 37 _ (by rfl) (by rfl) ?_ (.pointer (some ⟨_, 0, none⟩)) (by rfl) ?_ _ Tryz.underlying37 rfl ?_ ?_; rotate_left; (next => (repeat (first | (with_reducible refine BlkAt.new _ _ _ _ ?_; ((try simp) <;> omega)) | (with_reducible assumption) | (with_reducible refine Blk.at (t := ?_) ?_; rotate_left; with_reducible assumption) | with_reducible refine BlkAt.alloc ?_ _ | with_reducible refine BlkAt.drew ?_ | (with_reducible refine BlkAt.setSame ?_ _ _) | (with_reducible refine BlkAt.setCell ?_ ?_ _; rotate_left; ((try simp) <;> omega)) | (with_reducible refine BlkAt.ext (w := ?_) ?_ ?_; rotate_left 2; (with_reducible assumption)) | fail))); (next => kernel_rfl)) | ((with_reducible show wpList _ _ _ (⟨_, .load 59 _, _, _, _, _⟩ :: _) _ _); refine wpList_load_ho 59 _ (by rfl) (by rfl) ?_ (.pointer (some ⟨_, 0, none⟩)) (by rfl) ?_ _ Tryz.underlying59 rfl ?_ ?_; rotate_left; (next => (repeat (first | (with_reducible refine BlkAt.new _ _ _ _ ?_; ((try simp) <;> omega)) | (with_reducible assumption) | (with_reducible refine Blk.at (t := ?_) ?_; rotate_left; with_reducible assumption) | with_reducible refine BlkAt.alloc ?_ _ | with_reducible refine BlkAt.drew ?_ | (with_reducible refine BlkAt.setSame ?_ _ _) | (with_reducible refine BlkAt.setCell ?_ ?_ _; rotate_left; ((try simp) <;> omega)) | (with_reducible refine BlkAt.ext (w := ?_) ?_ ?_; rotate_left 2; (with_reducible assumption)) | fail))); (next => kernel_rfl)) | (go_at_call 19; refine (HE.out _).mono ?_; rintro x w2 ⟨rfl, hb2⟩; have hE2 := hE0.ext hb2; have hP2 := hP0.ext hb2; have p1 : w2.cell? ⟨w.heap.size + 1, 1, none⟩ = some (.int .i64 left) := hP2.cell 1; have p2 : w2.cell? ⟨w.heap.size + 1, 2, none⟩ = some (.int .i64 stop) := hP2.cell 2) | (go_at_call 50; refine (HS.out _).mono ?_; rintro x w3 ⟨rfl, hb3⟩; have hE3 := hE2.ext hb3; have hP3 := hP2.ext hb3) | (go_at_call 51; refine (HB.out _).mono ?_; rintro x w4 ⟨rfl, hb4⟩; have hE4 := hE3.ext hb4; have hP4 := hP3.ext hb4; have c2 : w4.cell? ⟨w.heap.size, 2, none⟩ = some (.int .i64 e.o.side) := hE4.cell 2) | fail)
        have hbw : Below w.heap.size w w4 := below_ext hb0 (below_ext hb2 (below_ext hb3 hb4))
        refine (HM.out _ hbw).mono ?_
        rintro x w5 ⟨rfl, hb5⟩
        go_wp2_with fail
        go_ret
        exact ⟨ret_bool (by simp [b1, b2, b3, b4, HO.out]), below_ext hbw hb5⟩
      | some q =>
        have ho : op = bet e.o.side q ed := by rw [← HOP.out]; rfl
        have HO := Lib.hid ho
        clear ho
        go_enter Tryz.func16, Tryz.ntmps16
        go_wp2_with (first | ((with_reducible show wpList _ _ _ (⟨_, .load 37 _, _, _, _, _⟩ :: _) _ _); refine wpList_load_ho 37 _ (by rfl) (by rfl) ?_ (.pointer (some ⟨_, 0, none⟩)) (by rfl) ?_ _ Tryz.underlying37 rfl ?_ ?_; rotate_left; (next => (repeat (first | (with_reducible refine BlkAt.new _ _ _ _ ?_; ((try simp) <;> omega)) | (with_reducible assumption) | (with_reducible refine Blk.at (t := ?_) ?_; rotate_left; with_reducible assumption) | with_reducible refine BlkAt.alloc ?_ _ | with_reducible refine BlkAt.drew ?_ | (with_reducible refine BlkAt.setSame ?_ _ _) | (with_reducible refine BlkAt.setCell ?_ ?_ _; rotate_left; ((try simp) <;> omega)) | (with_reducible refine BlkAt.ext (w := ?_) ?_ ?_; rotate_left 2; (with_reducible assumption)) | fail))); (next => kernel_rfl)) | ((with_reducible show wpList _ _ _ (⟨_, .load 59 _, _, _, _, _⟩ :: _) _ _); refine wpList_load_ho 59 _ (by rfl) (by rfl) ?_ (.pointer (some ⟨_, 0, none⟩)) (by rfl) ?_ _ Tryz.underlying59 rfl ?_ ?_; rotate_left; (next => (repeat (first | (with_reducible refine BlkAt.new _ _ _ _ ?_; ((try simp) <;> omega)) | (with_reducible assumption) | (with_reducible refine Blk.at (t := ?_) ?_; rotate_left; with_reducible assumption) | with_reducible refine BlkAt.alloc ?_ _ | with_reducible refine BlkAt.drew ?_ | (with_reducible refine BlkAt.setSame ?_ _ _) | (with_reducible refine BlkAt.setCell ?_ ?_ _; rotate_left; ((try simp) <;> omega)) | (with_reducible refine BlkAt.ext (w := ?_) ?_ ?_; rotate_left 2; (with_reducible assumption)) | fail))); (next => kernel_rfl)) | (go_at_call 19; refine (HE.out _).mono ?_; rintro x w2 ⟨rfl, hb2⟩; have hE2 := hE0.ext hb2; have hP2 := hP0.ext hb2; have p1 : w2.cell? ⟨w.heap.size + 1, 1, none⟩ = some (.int .i64 left) := hP2.cell 1; have p2 : w2.cell? ⟨w.heap.size + 1, 2, none⟩ = some (.int .i64 stop) := hP2.cell 2) | (go_at_call 50; refine (HS.out _).mono ?_; rintro x w3 ⟨rfl, hb3⟩; have hE3 := hE2.ext hb3; have hP3 := hP2.ext hb3) | (go_at_call 51; refine (HB.out _).mono ?_; rintro x w4 ⟨rfl, hb4⟩; have hE4 := hE3.ext hb4; have hP4 := hP3.ext hb4; have c2 : w4.cell? ⟨w.heap.size, 2, none⟩ = some (.int .i64 e.o.side) := hE4.cell 2) | fail)
        have hbw : Below w.heap.size w w4 := below_ext hb0 (below_ext hb2 (below_ext hb3 hb4))
        refine (HM.out _ hbw).mono ?_
        rintro x w5 ⟨rfl, hb5⟩
        have c5 : w5.cell? ⟨w.heap.size, 2, none⟩ = some (.int .i64 e.o.side) := (hE4.ext hb5).cell 2
        go_wp2_with (first | (go_at_call 53; refine (HBT.out _ _).mono ?_; rintro x w6 ⟨rfl, rfl⟩) | fail)
        go_ret
        exact ⟨ret_bool (by simp [b1, b2, b3, b4, HO.out]), below_ext hbw hb5⟩
end
end Ma
end Go.Proofs.YtbnappiaomiciaaGreat
namespace Go.Proofs.YtbnappiaomiciaaGreat
set_option linter.unusedVariables false
namespace Ma
open Bk (bet srt sdO fndI roomO addF addO frontO)
open Sw (Tk Fl mk mkP wrs trd appF Pok rchO)
end Ma
end Go.Proofs.YtbnappiaomiciaaGreat
namespace Go.Proofs.YtbnappiaomiciaaGreat
set_option linter.unusedVariables false
open Go.RowKit
namespace Ma
set_option maxHeartbeats 4000000
set_option maxRecDepth 10000
def FPost (f : Int) (w : World) (e : Ending) (w' : World) : Prop := e = .returned (.int .i64 f) ∧ Below w.heap.size w w'
def QPost (b : Bool) (w : World) (e : Ending) (w' : World) : Prop := e = .returned (.bool b) ∧ Below w.heap.size w w'
theorem callFunc_in {P : Program} {f : FuncId} {fn : Func} {c : Code} (hf : P.funcs[f]? = some fn) (hname : (fn.name == "runtime.NumGoroutine") = false) (hb : fn.body = some c) (args : Array Value) (w : World) : (callFunc f args).run P w = .ok (.enter f args) w := by
  have h1 : fn.name ≠ "runtime.NumGoroutine" := by simpa using hname
  simp [callFunc, hf, h1, hb]
theorem rangeAt_below {w w' : World} {b o : Nat} {l : List Value} (h : w.rangeAt b o l) (hb : Below w.heap.size w w') : w'.rangeAt b o l := fun j v hv => by
  have h1 := h j v hv
  exact (hb.cell (cell_lt h1)).trans h1
theorem mfirst_any (n g : Nat) (K : Nat → Nat) (caps : Nat → Array Value) (q : Nat → Bool) (F : Nat → Int) (hn : n ≤ 100) {w : World} (hc : ∀ k, k < n → w.rangeAt g (k * 2) [.func (.func (K k)) #[] (caps k), .int .i64 (F k)])
    (hq : ∀ k, k < n → ∀ args W, (callFunc (K k) args).run Tryz.prog W = .ok (.enter (K k) args) W)
    (hk : ∀ k, k < n → (∀ j, j < k → q j = false) → ∀ W, Below w.heap.size w W → Calls Tryz.prog (K k) (caps k) W (QPost (q k) W)) :
    Calls Tryz.prog 25 #[.slice (some ⟨g, 0, none⟩) n n] w (FPost (fstQ q F 0 n) w) := by
  replace hc := Lib.hid hc
  replace hk := Lib.hid hk
  replace hq := Lib.hid hq
  go_enter Tryz.func25, Tryz.ntmps25
  go_wp2_with fail
  go_loopw [7] (fun i wr => ∃ k : Nat, i = .int .i64 k ∧ k ≤ n ∧ Hid (fstQ q F k (n - k) = fstQ q F 0 n) ∧ Hid (∀ j, j < k → q j = false) ∧ Below w.heap.size w wr) (fun i _ => n - (intOf i).toNat)
  case atStart => exact ⟨0, rfl, Nat.zero_le _, Lib.hid rfl, Lib.hid (fun j hj => absurd hj (Nat.not_lt_zero j)), Below.refl _ _⟩
  case round =>
    obtain ⟨k, rfl, hkn, hF, hz, hb⟩ := hrel
    by_cases hlt : k < n
    · have e1 : (k : Int) < (n : Int) := by omega
      have hmid := rangeAt_below (hc.out k hlt) hb
      have hK := Lib.hid (hk.out k hlt hz.out)
      have hq1 := hq.out k hlt
      have hF2 := hF.out
      rw [show n - k = n - (k + 1) + 1 by omega, fstQ] at hF2
      have hX : Blk (wr.alloc (.cells #[.nilFunc, .int .i64 0] 84)) wr.heap.size 84 #[.nilFunc, .int .i64 0] := Blk.new _ _ _ _ rfl
      clear hF hk hc hq
      have hzn : q k = false → ∀ j, j < k + 1 → q j = false := fun h j hj => by
        rcases Nat.lt_or_ge j k with h1 | h1
        · exact hz.out j h1
        · rw [show j = k by omega]; exact h
      replace hzn := Lib.hid hzn
      generalize q k = qk at *
      generalize F k = fk at *
      generalize K k = kk at *
      generalize caps k = cc at *
      cases qk
      · rw [if_neg (by simp)] at hF2
        have hz2 := Lib.hid (hzn.out rfl)
        clear hzn
        replace hF2 := Lib.hid hF2
        go_wp2_with (first | (refine wpList_load_mid (by rfl) _ _ (by rfl) _ _ (by rfl) _ _ hmid Tryz.underlying84 rfl (by kernel_rfl) ?_) | (((with_reducible show wpList _ _ _ (⟨_, .store 84 _ _, _, _, _, _⟩ :: _) _ _); refine wpList_store_blk (by rfl) 84 _ _ (by rfl) _ _ (by rfl) (by rfl) _ _ hX (by kernel_rfl) (by rfl) ?_ ?_; (next => first | (simp [Value.oneCell']; done) | (simp [Value.oneCell', Edt.cells]; done) | exact Are.ordArr_one _); intro w3 hX3 hU3); have hb3 : Below wr.heap.size wr w3 := below_upd (by (repeat (first | with_reducible exact Below.refl _ _ | (with_reducible assumption) | (with_reducible refine below_alloc ?_ _) | (with_reducible refine below_ext (w1 := ?_) ?_ ?_; rotate_left 2; (with_reducible assumption)) | (with_reducible refine Below.setCell ?_ ?_ _; rotate_left; ((try simp) <;> omega)) | (with_reducible refine Below.drew ?_) | (with_reducible refine below_drewN ?_ _) | fail))) (Nat.le_refl _) hU3; have x0 : w3.cell? ⟨wr.heap.size, 0, none⟩ = some (.func (.func kk) #[] cc) := Blk.cell hX3 0; have x1 : w3.cell? ⟨wr.heap.size, 1, none⟩ = some (.int .i64 fk) := Blk.cell hX3 1) | ((with_reducible refine (hK.out w3 (below_ext hb hb3)).mono ?_); rintro e w1 ⟨rfl, hb1⟩) | fail)
        go_roundw
        case rel => exact ⟨k + 1, by go_num, by omega, hF2, hz2, below_ext hb (below_ext hb3 hb1)⟩
        case measure => simp [intOf]; omega
      · rw [if_pos rfl] at hF2
        replace hF2 := Lib.hid hF2
        clear hzn
        go_wp2_with (first | (refine wpList_load_mid (by rfl) _ _ (by rfl) _ _ (by rfl) _ _ hmid Tryz.underlying84 rfl (by kernel_rfl) ?_) | (((with_reducible show wpList _ _ _ (⟨_, .store 84 _ _, _, _, _, _⟩ :: _) _ _); refine wpList_store_blk (by rfl) 84 _ _ (by rfl) _ _ (by rfl) (by rfl) _ _ hX (by kernel_rfl) (by rfl) ?_ ?_; (next => first | (simp [Value.oneCell']; done) | (simp [Value.oneCell', Edt.cells]; done) | exact Are.ordArr_one _); intro w3 hX3 hU3); have hb3 : Below wr.heap.size wr w3 := below_upd (by (repeat (first | with_reducible exact Below.refl _ _ | (with_reducible assumption) | (with_reducible refine below_alloc ?_ _) | (with_reducible refine below_ext (w1 := ?_) ?_ ?_; rotate_left 2; (with_reducible assumption)) | (with_reducible refine Below.setCell ?_ ?_ _; rotate_left; ((try simp) <;> omega)) | (with_reducible refine Below.drew ?_) | (with_reducible refine below_drewN ?_ _) | fail))) (Nat.le_refl _) hU3; have x0 : w3.cell? ⟨wr.heap.size, 0, none⟩ = some (.func (.func kk) #[] cc) := Blk.cell hX3 0) | ((with_reducible refine (hK.out w3 (below_ext hb hb3)).mono ?_); rintro e w1 ⟨rfl, hb1⟩; have x1 : w1.cell? ⟨wr.heap.size, 1, none⟩ = some (.int .i64 fk) := (Blk.ext hX3 hb1).cell 1) | fail)
        go_ret
        exact ⟨by rw [← hF2.out]; rfl, below_ext hb (below_ext hb3 hb1)⟩
    · have hke : k = n := by omega
      subst hke
      rw [Nat.sub_self] at hF
      go_wp2_with fail
      go_ret
      exact ⟨by rw [← hF.out]; rfl, hb⟩
end Ma
end Go.Proofs.YtbnappiaomiciaaGreat
namespace Go.Proofs.YtbnappiaomiciaaGreat
set_option linter.unusedVariables false
open Go.RowKit
namespace Sho
set_option maxHeartbeats 400000

/-! ### flags -/
def low (f : Int) : Int := (((BitVec.ofInt 64 f).toNat % 4 : Nat) : Int)








/-! ### Least -/





/-! ### Trips -/
def pricedF (p : Int) : Bool := decide (1 ≤ p) && decide (p ≤ 1099511627776)


def priceF (p : Int) : Int := if pricedF p then 0 else 9
theorem price_any (p : Int) (w : World) (hp : I64 p) :
    Calls Tryz.prog 66 #[.int .i64 p, .int .i64 1] w fun e w' => e = .returned (.int .i64 (priceF p)) ∧ w = w' := by
  have kp := hp
  obtain ⟨p1, p2⟩ := hp
  by_cases h1 : p < 1
  · have HF : Hid (priceF p = 9) := by
      have : pricedF p = false := by simp [pricedF]; omega
      show priceF p = 9
      simp [priceF, this]
    go_enter Tryz.func66, Tryz.ntmps66
    go_wp2_with fail
    go_ret
    exact ⟨by rw [HF.out]; rfl, rfl⟩
  · by_cases h2 : 1099511627776 < p
    · have HF : Hid (priceF p = 9) := by
        have : pricedF p = false := by simp [pricedF]; omega
        show priceF p = 9
        simp [priceF, this]
      go_enter Tryz.func66, Tryz.ntmps66
      go_wp2_with fail
      go_ret
      exact ⟨by rw [HF.out]; rfl, rfl⟩
    · have HF : Hid (priceF p = 0) := by
        have : pricedF p = true := by simp [pricedF]; omega
        show priceF p = 0
        simp [priceF, this]
      have HD : Hid (Fix.downF p 1 = p) := by show Fix.downF p 1 = p; unfold Fix.downF; rw [if_neg (by omega)]; simp
      go_enter Tryz.func66, Tryz.ntmps66
      go_wp2_with (first | go_at_call 95; refine (Fix.down_any _ _ _ kp ⟨by decide, by decide⟩).mono ?_; rintro e w' ⟨rfl, rfl⟩; rw [HD.out] | fail)
      go_ret
      exact ⟨by rw [HF.out]; rfl, rfl⟩





end Sho
end Go.Proofs.YtbnappiaomiciaaGreat
namespace Go.Proofs.YtbnappiaomiciaaGreat
set_option linter.unusedVariables false
open Go.RowKit
section
variable {P : Program} {md : Region.Mode} {S C : World → Prop} {n : Nat} {Q' : Exit → Act → World → Prop}
theorem wpAnyT_of_quiet {ops : Array Oper} {Q : Act → Prop} (hCS : ∀ w, C w → S w) (hQ : ∀ a w, C w → Q a → Q' .normal a w) : ∀ (fuel : Nat) (listed : Array Bool) (a : Act) (w : World), C w →
    wpAnyQ P md ops C Q fuel listed a → wpAnyT P md ops Q' S n fuel listed a w
  | 0, _, _, _, hw, h => ⟨h.1, hQ _ _ hw h.2⟩
  | fuel + 1, _, _, _, hw, h => ⟨fun h0 => hQ _ _ hw (h.1 h0), fun i hi => wpOp_of_qOp hw (fun a' w' hw' h' => ⟨.inr (hCS _ hw'), wpAnyT_of_quiet hCS hQ fuel _ a' w' hw' h'⟩) (h.2 i hi)⟩
/-- Behind the call: quiet operations in the order of the text. -/
theorem T_rest {l : List Oper} (k : Nat) {fuel : Nat} {listed : Array Bool} {a : Act} {w2 : World} (hf : fuel = (l.drop k).length) (hB : (Region.noSelect l.toArray && Region.lexFrom md l.toArray (l.drop k).length k listed) = true) (hCS : ∀ W, Below w2.heap.size w2 W → S W)
    (h : wpQuiet P l.toArray (fun W => Ext w2 W) (fun a' => ∀ w3, Below w2.heap.size w2 w3 → Q' .normal a' w3) (l.drop k) a) : wpAnyT P md l.toArray Q' S n fuel listed a w2 := by
  subst hf
  simp only [Bool.and_eq_true] at hB
  refine wpAnyT_of_quiet (C := fun W => Ext w2 W) (Q := fun a' => ∀ w3, Below w2.heap.size w2 w3 → Q' .normal a' w3) (fun W hW => hCS W hW.out) (fun a' w3 hw3 h3 => h3 w3 hw3.out) _ _ _ _ (show Ext w2 w2 from Below.refl _ _) ?_
  exact wpAnyQ_lex hB.1 (l.drop k) k _ _ (fun j => by simp [List.getElem?_drop]) hB.2 h
theorem y_load_blk {ops : Array Oper} {o : Oper} {a : Act} (ty : TypeId) (x : Operand) (ho : o.op = .load ty x) (hw : Region.wanted o (yielded ops a.tmps) = true) (g : Nat) (hx : a.eval x = .pointer (some ⟨g, 0, none⟩)) (t : TypeId) (cs : Array Value) (d : TypeDesc)
    (hb : ∀ w, S w → Blk w g t cs) (hu : P.underlying ty = some d) (hd : (match d with | .struct _ | .array _ _ => true | _ => false) = true) (hi : (P.info? ty).map (·.size) = some cs.size) : YieldsIf P ops S o (.agg cs) a :=
  .inl ⟨hw, fun w hS => by
    unfold execOp
    simp only [ho, hx, Instr.loadAt, Instr.sureAddr, Sem.run_bind, Sem.run_pure, Result.andThen_ok, run_loadVar_row w g t ty cs _ d (hb w hS) hu hd hi]⟩
theorem wp_enterE {ops : Array Oper} {o : Oper} {a : Act} {w : World} {Q : Exit → Act → World → Prop} {K : Act → World → Prop} {F : FuncId} {args : Array Value} (hx : (execOp a.eval o).run P w = .ok (.enter F args) w)
    (h : Calls P F args w fun e w' => ∃ v, e = .returned v ∧ K (a.put o.dst v) w') : o.wp P a w K Q := by
  unfold Oper.wp
  rw [hx, Oper.upon_enter]
  refine h.mono ?_
  rintro e w' ⟨v, rfl, hk⟩
  exact hk
end
end Go.Proofs.YtbnappiaomiciaaGreat
namespace Go.Proofs.YtbnappiaomiciaaGreat
set_option linter.unusedVariables false
open Go.RowKit
namespace Ma
set_option maxHeartbeats 4000000
set_option maxRecDepth 10000
open Bk (bet Bs osOf srt Sl fndI roomO)
open Sw (Tk Fl mk mkP MkPost rchO)
def qtyN (q : Int) : Int := if 1 ≤ q ∧ q ≤ 4294967296 then 0 else 9
theorem fqty_any (q : Int) (w : World) : Calls Tryz.prog 28 #[.int .i64 q] w fun x w' => x = .returned (.int .i64 (qtyN q)) ∧ Below w.heap.size w w' := by
  have hmf : ∀ (fn : Fn) (first cap : Array Value) (W : World), (Instr.makeFunc fn first cap).run Tryz.prog W = .ok (.func fn first cap) W := fun _ _ _ _ => rfl
  go_enter Tryz.func28, Tryz.ntmps28
  go_wp2_with go_in
  all_goals go_ret
  all_goals refine ⟨ret_int ?_, by (repeat (first | with_reducible exact Below.refl _ _ | (with_reducible assumption) | (with_reducible refine below_alloc ?_ _) | (with_reducible refine below_ext (w1 := ?_) ?_ ?_; rotate_left 2; (with_reducible assumption)) | (with_reducible refine Below.setCell ?_ ?_ _; rotate_left; ((try simp) <;> omega)) | (with_reducible refine Below.drew ?_) | (with_reducible refine below_drewN ?_ _) | fail))⟩
  all_goals (simp_all [qtyN] <;> omega)
theorem ranged_any (e : En) (hp : I64 e.o.price) (w : World) : Calls Tryz.prog 29 #[.agg e.arr] w fun x w' => x = .returned (.bool (rangedF e)) ∧ Below w.heap.size w w' := by
  have HP := Lib.hid (fun W => Sho.price_any e.o.price W hp)
  by_cases h : e.typ = 2
  · have k : (e.typ == 2) = true := by simp [h]
    have HL : Hid (rangedF e = (e.o.price != 0)) := Lib.hid (by unfold rangedF; rw [if_pos h]; by_cases h0 : e.o.price = 0 <;> simp [h0])
    clear h
    go_enter Tryz.func29, Tryz.ntmps29
    go_wp2_with fail
    go_ret
    exact ⟨by rw [HL.out]; rfl, by (repeat (first | with_reducible exact Below.refl _ _ | (with_reducible assumption) | (with_reducible refine below_alloc ?_ _) | (with_reducible refine below_ext (w1 := ?_) ?_ ?_; rotate_left 2; (with_reducible assumption)) | (with_reducible refine Below.setCell ?_ ?_ _; rotate_left; ((try simp) <;> omega)) | (with_reducible refine Below.drew ?_) | (with_reducible refine below_drewN ?_ _) | fail))⟩
  · have k : (e.typ == 2) = false := by simp [h]
    have HL : Hid (rangedF e = (Sho.priceF e.o.price != 0)) := Lib.hid (by
      unfold rangedF Sho.priceF Sho.pricedF
      rw [if_neg h]
      by_cases h1 : 1 ≤ e.o.price <;> by_cases h2 : e.o.price ≤ 1099511627776 <;> simp [h1, h2])
    clear h
    generalize Sho.priceF e.o.price = z at *
    go_enter Tryz.func29, Tryz.ntmps29
    go_wp2_with (first | (go_at_call 66; refine (HP.out _).mono ?_; rintro x w2 ⟨rfl, rfl⟩) | fail)
    go_ret
    exact ⟨by rw [HL.out]; rfl, by (repeat (first | with_reducible exact Below.refl _ _ | (with_reducible assumption) | (with_reducible refine below_alloc ?_ _) | (with_reducible refine below_ext (w1 := ?_) ?_ ?_; rotate_left 2; (with_reducible assumption)) | (with_reducible refine Below.setCell ?_ ?_ _; rotate_left; ((try simp) <;> omega)) | (with_reducible refine Below.drew ?_) | (with_reducible refine below_drewN ?_ _) | fail))⟩
section
variable {w : World} {c : Nat → Nat} {b N most k : Nat} {ss : List Sl} {e : En} {bb bo be : Nat}
theorem c1_any {p : Addr} (hB : Blk w bb 38 #[.pointer (some p)]) (hO : Blk w bo 30 e.o.arr) (hE : Blk w be 37 e.arr) :
    Calls Tryz.prog 26 #[.pointer (some ⟨bb, 0, none⟩), .pointer (some ⟨bo, 0, none⟩), .pointer (some ⟨be, 0, none⟩)] w (QPost (decide ((e.o.side ≠ 0 ∧ e.o.side ≠ 1) ∨ e.typ < 1 ∨ 5 < e.typ)) w) := by
  have b0 : w.cell? ⟨bb, 0, none⟩ = some (.pointer (some p)) := hB.cell 0
  have o2 : w.cell? ⟨bo, 2, none⟩ = some (.int .i64 e.o.side) := hO.cell 2
  have e7 : w.cell? ⟨be, 7, none⟩ = some (.int .i64 e.typ) := hE.cell 7
  clear hB hO hE
  generalize e.o.side = s at *
  generalize e.typ = t at *
  go_enter Tryz.func26, Tryz.ntmps26
  go_wp2_with fail
  all_goals go_ret
  all_goals refine ⟨ret_bool ?_, Below.refl _ _⟩
  all_goals (rw [Bool.eq_iff_iff])
  all_goals (simp_all <;> omega)
theorem c2_any (hO : Blk w bo 30 e.o.arr) (hE : Blk w be 37 e.arr) (hp : I64 e.o.price) :
    Calls Tryz.prog 27 #[.pointer (some ⟨bo, 0, none⟩), .pointer (some ⟨be, 0, none⟩)] w (QPost (decide (¬ (1 ≤ e.o.qty ∧ e.o.qty ≤ 4294967296)) || rangedF e) w) := by
  have o4 : w.cell? ⟨bo, 4, none⟩ = some (.int .i64 e.o.qty) := hO.cell 4
  have HQ := Lib.hid (fun W => fqty_any e.o.qty W)
  have HR := Lib.hid (fun W => ranged_any e hp W)
  generalize rangedF e = z at *
  by_cases hq : 1 ≤ e.o.qty ∧ e.o.qty ≤ 4294967296
  · have HF : Hid ((decide (¬ (1 ≤ e.o.qty ∧ e.o.qty ≤ 4294967296)) || z) = z) := Lib.hid (by simp [hq])
    have hn : qtyN e.o.qty = 0 := by unfold qtyN; rw [if_pos hq]
    rw [hn] at HQ
    clear hn hq hO
    generalize e.o.qty = q at *
    go_enter Tryz.func27, Tryz.ntmps27
    go_wp2_with (first | ((with_reducible show wpList _ _ _ (⟨_, .load 37 _, _, _, _, _⟩ :: _) _ _); refine wpList_load_ho 37 _ (by rfl) (by rfl) ?_ (.pointer (some ⟨_, 0, none⟩)) (by rfl) ?_ _ Tryz.underlying37 rfl ?_ ?_; rotate_left; (next => (repeat (first | (with_reducible refine BlkAt.new _ _ _ _ ?_; ((try simp) <;> omega)) | (with_reducible assumption) | (with_reducible refine Blk.at (t := ?_) ?_; rotate_left; with_reducible assumption) | with_reducible refine BlkAt.alloc ?_ _ | with_reducible refine BlkAt.drew ?_ | (with_reducible refine BlkAt.setSame ?_ _ _) | (with_reducible refine BlkAt.setCell ?_ ?_ _; rotate_left; ((try simp) <;> omega)) | (with_reducible refine BlkAt.ext (w := ?_) ?_ ?_; rotate_left 2; (with_reducible assumption)) | fail))); (next => kernel_rfl)) | (go_at_call 28; refine (HQ.out _).mono ?_; rintro x w2 ⟨rfl, hb2⟩; have hE2 := hE.ext hb2) | (go_at_call 29; refine (HR.out _).mono ?_; rintro x w3 ⟨rfl, hb3⟩) | fail)
    go_ret
    exact ⟨by rw [HF.out]; rfl, below_ext hb2 hb3⟩
  · have HF : Hid ((decide (¬ (1 ≤ e.o.qty ∧ e.o.qty ≤ 4294967296)) || z) = true) := Lib.hid (by rw [decide_eq_true hq]; rfl)
    have hn : qtyN e.o.qty = 9 := by unfold qtyN; rw [if_neg hq]
    rw [hn] at HQ
    clear hn hq hO
    generalize e.o.qty = q at *
    go_enter Tryz.func27, Tryz.ntmps27
    go_wp2_with (first | ((with_reducible show wpList _ _ _ (⟨_, .load 37 _, _, _, _, _⟩ :: _) _ _); refine wpList_load_ho 37 _ (by rfl) (by rfl) ?_ (.pointer (some ⟨_, 0, none⟩)) (by rfl) ?_ _ Tryz.underlying37 rfl ?_ ?_; rotate_left; (next => (repeat (first | (with_reducible refine BlkAt.new _ _ _ _ ?_; ((try simp) <;> omega)) | (with_reducible assumption) | (with_reducible refine Blk.at (t := ?_) ?_; rotate_left; with_reducible assumption) | with_reducible refine BlkAt.alloc ?_ _ | with_reducible refine BlkAt.drew ?_ | (with_reducible refine BlkAt.setSame ?_ _ _) | (with_reducible refine BlkAt.setCell ?_ ?_ _; rotate_left; ((try simp) <;> omega)) | (with_reducible refine BlkAt.ext (w := ?_) ?_ ?_; rotate_left 2; (with_reducible assumption)) | fail))); (next => kernel_rfl)) | (go_at_call 28; refine (HQ.out _).mono ?_; rintro x w2 ⟨rfl, hb2⟩) | fail)
    go_ret
    exact ⟨by rw [HF.out]; rfl, hb2⟩
theorem c3_any (S : Bs w c b N most k ss) (hB : Blk w bb 38 #[.pointer (some ⟨b, 0, none⟩)]) (hO : Blk w bo 30 e.o.arr) (hid : Idx.Wf e.o.id) :
    Calls Tryz.prog 30 #[.pointer (some ⟨bb, 0, none⟩), .pointer (some ⟨bo, 0, none⟩)] w (QPost (fndI e.o.id (osOf ss)).isSome w) := by
  have b0 : w.cell? ⟨bb, 0, none⟩ = some (.pointer (some ⟨b, 0, none⟩)) := hB.cell 0
  have o0 : w.cell? ⟨bo, 0, none⟩ = some (.int .i64 e.o.id) := hO.cell 0
  have HG := Lib.hid (fun W (hW : Below w.heap.size w W) => Bk.bget_any (S.ext hW) hid)
  generalize (fndI e.o.id (osOf ss)).isSome = z at *
  generalize (fndI e.o.id (osOf ss)).getD Are.ord0 = o at *
  clear hB hO S hid
  generalize e.o.id = id at *
  go_enter Tryz.func30, Tryz.ntmps30
  go_wp2_with (first | (go_at_call 31; refine (HG.out _ (Below.refl _ _)).mono ?_; rintro x w2 ⟨rfl, hb2⟩; have hX2 := Blk.new w2 30 Are.ord0.arr _ rfl) | ((with_reducible show wpList _ _ _ (⟨_, .store 30 _ _, _, _, _, _⟩ :: _) _ _); refine wpList_store_blk (by rfl) 30 _ _ (by rfl) _ _ (by rfl) (by rfl) _ _ hX2 (by kernel_rfl) (by rfl) ?_ ?_; (next => first | (simp [Value.oneCell']; done) | (simp [Value.oneCell', Edt.cells]; done) | exact Are.ordArr_one _); intro w3 hX3 hU3) | fail)
  go_ret
  exact ⟨rfl, below_ext hb2 (below_upd (by (repeat (first | with_reducible exact Below.refl _ _ | (with_reducible assumption) | (with_reducible refine below_alloc ?_ _) | (with_reducible refine below_ext (w1 := ?_) ?_ ?_; rotate_left 2; (with_reducible assumption)) | (with_reducible refine Below.setCell ?_ ?_ _; rotate_left; ((try simp) <;> omega)) | (with_reducible refine Below.drew ?_) | (with_reducible refine below_drewN ?_ _) | fail))) (Nat.le_refl _) hU3)⟩
theorem c4_any (S : Bs w c b N most k ss) (hB : Blk w bb 38 #[.pointer (some ⟨b, 0, none⟩)]) (hO : Blk w bo 30 e.o.arr) (hE : Blk w be 37 e.arr) :
    Calls Tryz.prog 32 #[.pointer (some ⟨be, 0, none⟩), .pointer (some ⟨bb, 0, none⟩), .pointer (some ⟨bo, 0, none⟩)] w (QPost (decide (e.typ = 5) && rchO e.o.side e.o.price (osOf ss)) w) := by
  have b0 : w.cell? ⟨bb, 0, none⟩ = some (.pointer (some ⟨b, 0, none⟩)) := hB.cell 0
  have o2 : w.cell? ⟨bo, 2, none⟩ = some (.int .i64 e.o.side) := hO.cell 2
  have o3 : w.cell? ⟨bo, 3, none⟩ = some (.int .i64 e.o.price) := hO.cell 3
  have e7 : w.cell? ⟨be, 7, none⟩ = some (.int .i64 e.typ) := hE.cell 7
  have HR := Lib.hid (Sw.reaches_any S e.o.side e.o.price)
  generalize rchO e.o.side e.o.price (osOf ss) = z at *
  clear hB hO hE S
  generalize e.o.side = s at *
  generalize e.o.price = p at *
  generalize e.typ = t at *
  by_cases ht : t = 5
  · have k5 : (t == 5) = true := by simp [ht]
    rw [decide_eq_true ht, Bool.true_and]
    clear ht
    go_enter Tryz.func32, Tryz.ntmps32
    go_wp2_with (first | (go_at_call 33; refine HR.out.mono ?_; rintro x w2 ⟨rfl, hb2⟩) | fail)
    go_ret
    exact ⟨rfl, hb2⟩
  · have k5 : (t == 5) = false := by simp [ht]
    rw [decide_eq_false ht, Bool.false_and]
    clear ht
    go_enter Tryz.func32, Tryz.ntmps32
    go_wp2_with fail
    go_ret
    exact ⟨rfl, Below.refl _ _⟩
theorem c5_any (S : Bs w c b N most k ss) (hB : Blk w bb 38 #[.pointer (some ⟨b, 0, none⟩)]) (hE : Blk w be 37 e.arr) (hq : e.o.qty ≤ 9223372036854775807) :
    Calls Tryz.prog 34 #[.pointer (some ⟨be, 0, none⟩), .pointer (some ⟨bb, 0, none⟩)] w (QPost (decide (e.typ = 4) && decide (0 < (mkP (tkE e) (osOf ss)).2.1)) w) := by
  have b0 : w.cell? ⟨bb, 0, none⟩ = some (.pointer (some ⟨b, 0, none⟩)) := hB.cell 0
  have e7 : w.cell? ⟨be, 7, none⟩ = some (.int .i64 e.typ) := hE.cell 7
  have HP := Lib.hid (plan_any S e hq)
  obtain ⟨⟨fs, left, stop⟩, hpr⟩ : ∃ pr, pr = mkP (tkE e) (osOf ss) := ⟨_, rfl⟩
  rw [← hpr] at HP
  rw [← hpr]
  clear hpr S hB
  generalize he : e.typ = t at *
  by_cases ht : t = 4
  · have k4 : (t == 4) = true := by simp [ht]
    rw [decide_eq_true ht, Bool.true_and]
    clear ht he
    go_enter Tryz.func34, Tryz.ntmps34
    go_wp2_with (first | ((with_reducible show wpList _ _ _ (⟨_, .load 37 _, _, _, _, _⟩ :: _) _ _); refine wpList_load_ho 37 _ (by rfl) (by rfl) ?_ (.pointer (some ⟨_, 0, none⟩)) (by rfl) ?_ _ Tryz.underlying37 rfl ?_ ?_; rotate_left; (next => (repeat (first | (with_reducible refine BlkAt.new _ _ _ _ ?_; ((try simp) <;> omega)) | (with_reducible assumption) | (with_reducible refine Blk.at (t := ?_) ?_; rotate_left; with_reducible assumption) | with_reducible refine BlkAt.alloc ?_ _ | with_reducible refine BlkAt.drew ?_ | (with_reducible refine BlkAt.setSame ?_ _ _) | (with_reducible refine BlkAt.setCell ?_ ?_ _; rotate_left; ((try simp) <;> omega)) | (with_reducible refine BlkAt.ext (w := ?_) ?_ ?_; rotate_left 2; (with_reducible assumption)) | fail))); (next => kernel_rfl)) | fail)
    refine HP.out.mono ?_
    rintro x w2 ⟨⟨v, rfl, hown2⟩, hb2⟩
    obtain ⟨A2, cp2, rfl⟩ := Sw.owns_slice hown2
    have hfd : ∀ W : World, (Instr.field 59 (.agg #[.slice A2 fs.length cp2, .int .i64 left, .int .i64 stop]) 1).run Tryz.prog W = .ok (.int .i64 left) W := fun _ => by kernel_rfl
    clear hown2
    go_wp2_with fail
    go_ret
    exact ⟨rfl, hb2⟩
  · have k4 : (t == 4) = false := by simp [ht]
    rw [decide_eq_false ht, Bool.false_and]
    clear ht he
    go_enter Tryz.func34, Tryz.ntmps34
    go_wp2_with fail
    go_ret
    exact ⟨rfl, Below.refl _ _⟩
/-- What the loads of Check's last question lean on. -/
structure S6 (w : World) (bb bo be b : Nat) (e : En) (W : World) : Prop where
  b0 : W.cell? ⟨bb, 0, none⟩ = some (.pointer (some ⟨b, 0, none⟩))
  E : Blk W be 37 e.arr
  low : Below w.heap.size w W
theorem c6_any (S : Bs w c b N most k ss) (hB : Blk w bb 38 #[.pointer (some ⟨b, 0, none⟩)]) (hO : Blk w bo 30 e.o.arr) (hE : Blk w be 37 e.arr) (hs : e.o.side = 0 ∨ e.o.side = 1) (hq : e.o.qty ≤ 9223372036854775807) :
    Calls Tryz.prog 35 #[.pointer (some ⟨be, 0, none⟩), .pointer (some ⟨bb, 0, none⟩), .pointer (some ⟨bo, 0, none⟩)] w (QPost (restsF (osOf ss) e (mkP (tkE e) (osOf ss)) && !roomO N most e.o.side (edgeF e) (osOf ss)) w) := by
  have b0 : w.cell? ⟨bb, 0, none⟩ = some (.pointer (some ⟨b, 0, none⟩)) := hB.cell 0
  have o2 : w.cell? ⟨bo, 2, none⟩ = some (.int .i64 e.o.side) := hO.cell 2
  have lB := hB.lt
  have lO := hO.lt
  have HP := Lib.hid (fun W (hW : Below w.heap.size w W) => plan_any (S.ext hW) e hq)
  have hlen : (mkP (tkE e) (osOf ss)).1.length ≤ 500 := Nat.le_trans (mkP_len _ _) (Sw.Bs.few S)
  have HL := Lib.hid (fun (h : restsF (osOf ss) e (mkP (tkE e) (osOf ss)) = true) => rests_left h)
  have HS := Lib.hid S
  have HSD := Lib.hid hs
  have HED := Lib.hid (fun W => edge_any e W)
  obtain ⟨⟨fs, left, stop⟩, hpr⟩ : ∃ pr, pr = mkP (tkE e) (osOf ss) := ⟨_, rfl⟩
  rw [← hpr] at HP hlen HL
  rw [← hpr]
  clear hpr S hB hs
  go_enter Tryz.func35, Tryz.ntmps35
  go_wp2_with fail
  refine wp_region_T (S := S6 w bb bo be b e) 16 (by kernel_rfl) ?_
  have hb1 : Below w.heap.size w w.drew := (Below.refl _ _).drew
  have hS : S6 w bb bo be b e w.drew := ⟨b0, hE.drew, hb1⟩
  generalize w.drew = w1 at *
  (refine T_take (i := 0) rfl (by kernel_rfl) (fun _ _ _ _ h => h) hS ?_; refine ⟨_, y_load_blk 37 _ rfl (by rfl) be (by rfl) 37 e.arr _ (fun W h => h.E) Tryz.underlying37 rfl (by kernel_rfl), ?_⟩; simp only [Act.put, List.setIfInBounds_toArray, List.set_cons_zero, List.set_cons_succ])
  (refine T_take (i := 1) rfl (by kernel_rfl) (fun _ _ _ _ h => h) hS ?_; apply Exists.intro; refine ⟨.inl ⟨by rfl, fun W hW => ?_⟩, ?_⟩; (next => (have hs1 := hW.b0; go_simp; first | done | rfl)); simp only [Act.put, List.setIfInBounds_toArray, List.set_cons_zero, List.set_cons_succ])
  (refine T_take (i := 2) rfl (by kernel_rfl) (fun _ _ _ _ h => h) hS ?_; refine ⟨_, y_load_blk 37 _ rfl (by rfl) be (by rfl) 37 e.arr _ (fun W h => h.E) Tryz.underlying37 rfl (by kernel_rfl), ?_⟩; simp only [Act.put, List.setIfInBounds_toArray, List.set_cons_zero, List.set_cons_succ])
  (refine T_take (i := 3) rfl (by kernel_rfl) (fun _ _ _ _ h => h) hS ?_; apply Exists.intro; refine ⟨.inl ⟨by rfl, fun W hW => ?_⟩, ?_⟩; (next => (have hs1 := hW.b0; go_simp; first | done | rfl)); simp only [Act.put, List.setIfInBounds_toArray, List.set_cons_zero, List.set_cons_succ])
  refine T_all [4] (by kernel_rfl) (by decide) ?_
  intro j hj
  simp only [List.mem_cons, or_false, List.not_mem_nil] at hj
  subst hj
  refine T_op rfl (by rfl) ?_
  refine wp_enterE (ops := #[]) (F := 15) (args := #[.agg e.arr, .pointer (some ⟨b, 0, none⟩)]) ?_ ?_
  (next => first | (go_simp; done) | (go_simp; rfl))
  refine (HP.out _ hb1).mono ?_
  rintro x w2 ⟨⟨v, rfl, hown2⟩, hb2⟩
  have hS2 : ∀ W, Below w2.heap.size w2 W → S6 w bb bo be b e W := fun W hW => ⟨((below_ext hb2 hW).cell (p := ⟨bb, 0, none⟩) (cell_lt hS.b0)).trans hS.b0, hS.E.ext (below_ext hb2 hW), hb1.trans ((below_ext hb2 hW).mono hb1.size)⟩
  refine ⟨_, rfl, .inr (hS2 _ (Below.refl _ _)), ?_⟩
  simp only [Act.put, List.setIfInBounds_toArray, List.set_cons_zero, List.set_cons_succ]
  refine T_rest 5 (by rfl) (by kernel_rfl) hS2 ?_
  simp only [List.drop_succ_cons, List.drop_zero]
  clear hS hS2
  obtain ⟨A2, cp2, rfl, hrd2, _, _, hf2⟩ := Sw.owns_fl hown2
  have hbw2 := below_ext hb1 hb2
  have HRS := Lib.hid (fun W (hW : Below w2.heap.size w2 W) => rests_any (HS.out.ext (below_ext hbw2 hW)) e HSD.out (hrd2.below hW) (fun a h => Nat.lt_of_lt_of_le (hf2 a h).2 hW.size) (cap := cp2) hlen left stop)
  have b02 : w2.cell? ⟨bb, 0, none⟩ = some (.pointer (some ⟨b, 0, none⟩)) := (hbw2.cell (p := ⟨bb, 0, none⟩) lB).trans b0
  have o22 : w2.cell? ⟨bo, 2, none⟩ = some (.int .i64 e.o.side) := (hbw2.cell (p := ⟨bo, 2, none⟩) lO).trans o2
  have hE2 := hE.ext hbw2
  have lB2 : bb < w2.heap.size := Nat.lt_of_lt_of_le lB hbw2.size
  have lO2 : bo < w2.heap.size := Nat.lt_of_lt_of_le lO hbw2.size
  clear hown2 hrd2 hf2 HP hE b0 o2 hb1 hb2 lB lO
  cases hr : restsF (osOf ss) e (fs, left, stop) with
  | false =>
    rw [hr] at HRS
    have HR := Lib.hid hr
    clear hr HL
    skip
    repeat (first | go_big_quiet_skip | (go_big_quiet_want; go_big_quiet_op; go_big_quiet_on) | (refine q_load_fld (by rfl) _ _ (by rfl) (fun _ h => h) _ _ (by rfl) ?_ ?_ ?_ ?_ ?_ ?_; rotate_left; (next => (repeat (first | (with_reducible refine BlkAt.new _ _ _ _ ?_; ((try simp) <;> omega)) | (with_reducible assumption) | (with_reducible refine Blk.at (t := ?_) ?_; rotate_left; with_reducible assumption) | with_reducible refine BlkAt.alloc ?_ _ | with_reducible refine BlkAt.drew ?_ | (with_reducible refine BlkAt.setSame ?_ _ _) | (with_reducible refine BlkAt.setCell ?_ ?_ _; rotate_left; ((try simp) <;> omega)) | (with_reducible refine BlkAt.ext (w := ?_) ?_ ?_; rotate_left 2; (with_reducible assumption)) | fail))); rotate_left; (next => first | (simp only [go_sem]; rfl) | rfl); (next => kernel_rfl); (try simp only [Act.put, List.setIfInBounds_toArray, List.set_cons_zero, List.set_cons_succ])) | (refine q_rem (by rfl) _ _ _ _ (by rfl) _ _ (by rfl) (by rfl) (by kernel_rfl) (by kernel_rfl) ?_ ?_; (next => omega); (try simp only [Act.put, List.setIfInBounds_toArray, List.set_cons_zero, List.set_cons_succ])) | (refine q_step_ex (by rfl) ?_; apply Exists.intro; refine ⟨fun W hW => ?_, ?_⟩; (next => (have hWc := fun (b o : Nat) (h : b < _) => (Ext.out hW).cell (p := ⟨b, o, none⟩) h); (try have hLK := HLK.out W (Ext.out hW)); go_simp; first | rfl | (go_at_call 16; refine (HRS.out _ hW.out).mono ?_; rintro x w'' ⟨rfl, hb4⟩; exact ⟨rfl, below_ext hW.out hb4⟩) | fail); (try simp only [Act.put, List.setIfInBounds_toArray, List.set_cons_zero, List.set_cons_succ])) | fail)
    refine wpQuiet_nil ?_
    intro w3 hb3
    go_wp2_with fail
    go_ret
    exact ⟨ret_bool (by rw [HR.out]; rfl), below_ext hbw2 hb3⟩
  | true =>
    have hed := HL.out hr
    have HRM := Lib.hid (fun W (hW : Below w2.heap.size w2 W) => Bk.room_any (HS.out.ext (below_ext hbw2 hW)) e.o.side (edgeF e) ⟨by omega, by omega⟩)
    rw [hr] at HRS
    have HR := Lib.hid hr
    clear hr HL hed
    generalize edgeF e = ed at *
    generalize roomO N most e.o.side ed (osOf ss) = z at *
    skip
    repeat (first | go_big_quiet_skip | (go_big_quiet_want; go_big_quiet_op; go_big_quiet_on) | (refine q_load_blk (by rfl) 37 _ (by rfl) ?_ (.pointer (some ⟨_, 0, none⟩)) (by rfl) ?_ _ (fun _ h => h) Tryz.underlying37 rfl ?_ ?_; rotate_left; (next => (repeat (first | (with_reducible refine BlkAt.new _ _ _ _ ?_; ((try simp) <;> omega)) | (with_reducible assumption) | (with_reducible refine Blk.at (t := ?_) ?_; rotate_left; with_reducible assumption) | with_reducible refine BlkAt.alloc ?_ _ | with_reducible refine BlkAt.drew ?_ | (with_reducible refine BlkAt.setSame ?_ _ _) | (with_reducible refine BlkAt.setCell ?_ ?_ _; rotate_left; ((try simp) <;> omega)) | (with_reducible refine BlkAt.ext (w := ?_) ?_ ?_; rotate_left 2; (with_reducible assumption)) | fail))); (next => kernel_rfl); (try simp only [Act.put, List.setIfInBounds_toArray, List.set_cons_zero, List.set_cons_succ])) | (refine q_load_fld (by rfl) _ _ (by rfl) (fun _ h => h) _ _ (by rfl) ?_ ?_ ?_ ?_ ?_ ?_; rotate_left; (next => (repeat (first | (with_reducible refine BlkAt.new _ _ _ _ ?_; ((try simp) <;> omega)) | (with_reducible assumption) | (with_reducible refine Blk.at (t := ?_) ?_; rotate_left; with_reducible assumption) | with_reducible refine BlkAt.alloc ?_ _ | with_reducible refine BlkAt.drew ?_ | (with_reducible refine BlkAt.setSame ?_ _ _) | (with_reducible refine BlkAt.setCell ?_ ?_ _; rotate_left; ((try simp) <;> omega)) | (with_reducible refine BlkAt.ext (w := ?_) ?_ ?_; rotate_left 2; (with_reducible assumption)) | fail))); rotate_left; (next => first | (simp only [go_sem]; rfl) | rfl); (next => kernel_rfl); (try simp only [Act.put, List.setIfInBounds_toArray, List.set_cons_zero, List.set_cons_succ])) | (refine q_rem (by rfl) _ _ _ _ (by rfl) _ _ (by rfl) (by rfl) (by kernel_rfl) (by kernel_rfl) ?_ ?_; (next => omega); (try simp only [Act.put, List.setIfInBounds_toArray, List.set_cons_zero, List.set_cons_succ])) | (refine q_step_ex (by rfl) ?_; apply Exists.intro; refine ⟨fun W hW => ?_, ?_⟩; (next => (have hWc := fun (b o : Nat) (h : b < _) => (Ext.out hW).cell (p := ⟨b, o, none⟩) h); (try have hLK := HLK.out W (Ext.out hW)); go_simp; first | rfl | (go_at_call 16; refine (HRS.out _ hW.out).mono ?_; rintro x w'' ⟨rfl, hb4⟩; exact ⟨rfl, below_ext hW.out hb4⟩) | (go_at_call 19; refine (HED.out _).mono ?_; rintro x w'' ⟨rfl, hb4⟩; exact ⟨rfl, below_ext hW.out hb4⟩) | (go_at_call 36; refine (HRM.out _ hW.out).mono ?_; rintro x w'' ⟨rfl, hb4⟩; exact ⟨rfl, below_ext hW.out hb4⟩) | fail); (try simp only [Act.put, List.setIfInBounds_toArray, List.set_cons_zero, List.set_cons_succ])) | fail)
    refine wpQuiet_nil ?_
    intro w3 hb3
    go_wp2_with fail
    go_ret
    exact ⟨ret_bool (by rw [HR.out]; rfl), below_ext hbw2 hb3⟩
def cK : Nat → Nat
  | 0 => 26
  | 1 => 27
  | 2 => 30
  | 3 => 32
  | 4 => 34
  | _ => 35
def cC (bb bo be : Nat) : Nat → Array Value
  | 0 => #[.pointer (some ⟨bb, 0, none⟩), .pointer (some ⟨bo, 0, none⟩), .pointer (some ⟨be, 0, none⟩)]
  | 1 => #[.pointer (some ⟨bo, 0, none⟩), .pointer (some ⟨be, 0, none⟩)]
  | 2 => #[.pointer (some ⟨bb, 0, none⟩), .pointer (some ⟨bo, 0, none⟩)]
  | 3 => #[.pointer (some ⟨be, 0, none⟩), .pointer (some ⟨bb, 0, none⟩), .pointer (some ⟨bo, 0, none⟩)]
  | 4 => #[.pointer (some ⟨be, 0, none⟩), .pointer (some ⟨bb, 0, none⟩)]
  | _ => #[.pointer (some ⟨be, 0, none⟩), .pointer (some ⟨bb, 0, none⟩), .pointer (some ⟨bo, 0, none⟩)]
theorem cQ : ∀ k, k < 6 → ∀ args W, (callFunc (cK k) args).run Tryz.prog W = .ok (.enter (cK k) args) W
  | 0, _ => fun args W => callFunc_in (fn := Tryz.f26) (by kernel_rfl) (by kernel_rfl) rfl args W
  | 1, _ => fun args W => callFunc_in (fn := Tryz.f27) (by kernel_rfl) (by kernel_rfl) rfl args W
  | 2, _ => fun args W => callFunc_in (fn := Tryz.f30) (by kernel_rfl) (by kernel_rfl) rfl args W
  | 3, _ => fun args W => callFunc_in (fn := Tryz.f32) (by kernel_rfl) (by kernel_rfl) rfl args W
  | 4, _ => fun args W => callFunc_in (fn := Tryz.f34) (by kernel_rfl) (by kernel_rfl) rfl args W
  | 5, _ => fun args W => callFunc_in (fn := Tryz.f35) (by kernel_rfl) (by kernel_rfl) rfl args W
  | n + 6, h => absurd h (by omega)
def qArr (bb bo be : Nat) : Array Value := #[.func (.func 26) #[] (cC bb bo be 0), .int .i64 1, .func (.func 27) #[] (cC bb bo be 1), .int .i64 9, .func (.func 30) #[] (cC bb bo be 2), .int .i64 6, .func (.func 32) #[] (cC bb bo be 3), .int .i64 12, .func (.func 34) #[] (cC bb bo be 4), .int .i64 13, .func (.func 35) #[] (cC bb bo be 5), .int .i64 7]
theorem check_core {g : Nat} {tf : TypeId} (S : Bs w c b N most k ss) (hB : Blk w bb 38 #[.pointer (some ⟨b, 0, none⟩)]) (hO : Blk w bo 30 e.o.arr) (hE : Blk w be 37 e.arr) (hF : Blk w g tf (qArr bb bo be)) (hid : Idx.Wf e.o.id) (hp : I64 e.o.price) (hq : e.o.qty ≤ 9223372036854775807) :
    Calls Tryz.prog 25 #[.slice (some ⟨g, 0, none⟩) 6 6] w (FPost (checkF N most (osOf ss) e) w) := by
  refine mfirst_any 6 g cK (cC bb bo be) (askQ N most (osOf ss) e) fauK (by decide) ?_ cQ ?_
  · intro k hk j v hv
    rw [hF.cell]
    match k, hk with
    | 0, _ | 1, _ | 2, _ | 3, _ | 4, _ | 5, _ =>
      match j, hv with
      | 0, hv => exact hv
      | 1, hv => exact hv
      | n + 2, hv => simp at hv
  · intro k hk hz W hW
    match k, hk with
    | 0, _ => exact c1_any (hB.ext hW) (hO.ext hW) (hE.ext hW)
    | 1, _ => exact c2_any (hO.ext hW) (hE.ext hW) hp
    | 2, _ => exact c3_any (S.ext hW) (hB.ext hW) (hO.ext hW) hid
    | 3, _ => exact c4_any (S.ext hW) (hB.ext hW) (hO.ext hW) (hE.ext hW)
    | 4, _ => exact c5_any (S.ext hW) (hB.ext hW) (hE.ext hW) hq
    | 5, _ =>
      have h0 : decide ((e.o.side ≠ 0 ∧ e.o.side ≠ 1) ∨ e.typ < 1 ∨ 5 < e.typ) = false := hz 0 (by omega)
      exact c6_any (S.ext hW) (hB.ext hW) (hO.ext hW) (hE.ext hW) (by have := of_decide_eq_false h0; omega) hq
theorem check_any (S : Bs w c b N most k ss) (e : En) (hid : Idx.Wf e.o.id) (hp : I64 e.o.price) (hq : e.o.qty ≤ 9223372036854775807) : Calls Tryz.prog 8 #[.pointer (some ⟨b, 0, none⟩), .agg e.arr] w (FPost (checkF N most (osOf ss) e) w) := by
  have hmf : ∀ (fn : Fn) (first cap : Array Value) (W : World), (Instr.makeFunc fn first cap).run Tryz.prog W = .ok (.func fn first cap) W := fun _ _ _ _ => rfl
  obtain ⟨w1, hw1⟩ : ∃ w1, w1 = ((w.alloc (.cells #[.pointer (some ⟨b, 0, none⟩)] 38)).alloc (.cells e.arr 37)) := ⟨_, rfl⟩
  have hB0 : Blk w1 w.heap.size 38 #[.pointer (some ⟨b, 0, none⟩)] := by rw [hw1]; exact (Blk.new w _ _ _ rfl).alloc _
  have hE0 : Blk w1 (w.heap.size + 1) 37 e.arr := by rw [hw1]; exact Blk.new _ _ _ _ (sz_alloc _ _)
  have hb0 : Below w.heap.size w w1 := by rw [hw1]; (repeat (first | with_reducible exact Below.refl _ _ | (with_reducible assumption) | (with_reducible refine below_alloc ?_ _) | (with_reducible refine below_ext (w1 := ?_) ?_ ?_; rotate_left 2; (with_reducible assumption)) | (with_reducible refine Below.setCell ?_ ?_ _; rotate_left; ((try simp) <;> omega)) | (with_reducible refine Below.drew ?_) | (with_reducible refine below_drewN ?_ _) | fail))
  have hmid : w1.rangeAt (w.heap.size + 1) 0 e.o.cells := fun j v hv => by
    rw [hE0.cell, Nat.zero_add]
    have hj : j < 7 := (List.getElem?_eq_some_iff.1 hv).1
    match j, hj, hv with
    | 0, _, hv | 1, _, hv | 2, _, hv | 3, _, hv | 4, _, hv | 5, _, hv | 6, _, hv => exact hv
  have HW1 := Lib.hid hw1
  clear hw1
  go_enter Tryz.func8, Tryz.ntmps8
  go_wp2_with fail
  rw [← HW1.out]
  have hz : w1.heap.size = w.heap.size + 1 + 1 := by rw [HW1.out]; simp only [sz_alloc]
  refine (check_core (tf := 84) (bb := w.heap.size) (bo := w.heap.size + 1 + 1) (be := w.heap.size + 1) (e := e) (S.ext ?_) ?_ ?_ ?_ ?_ hid hp hq).mono ?_
  · exact below_alloc (below_alloc hb0 _) _
  · exact (hB0.alloc _).alloc _
  · exact (Blk.new w1 _ _ _ hz).alloc _
  · exact (hE0.alloc _).alloc _
  · exact Blk.new _ _ _ _ (by rw [sz_alloc, hz])
  rintro x w' ⟨rfl, hb1⟩
  go_wp2_with fail
  go_ret
  exact ⟨rfl, below_ext (below_alloc (below_alloc hb0 _) _) hb1⟩
end
end Ma
end Go.Proofs.YtbnappiaomiciaaGreat
namespace Go.Proofs.YtbnappiaomiciaaGreat
set_option linter.unusedVariables false
open Go.RowKit
namespace Ma
set_option maxHeartbeats 4000000
set_option maxRecDepth 10000
open Bk (bet Bs osOf srt Sl fndI roomO addO addF Cs)
open Sw (Tk Fl mk mkP MkPost appF)
/-- A result's cells. -/
def resArr (f : Int) (v : Value) (o : Ord) (g y : Int) : Array Value := #[.int .i64 f, v, .int .i64 o.id, .int .i64 o.owner, .int .i64 o.side, .int .i64 o.price, .int .i64 o.qty, .int .i64 o.flags, .int .i64 o.seq, .int .i64 g, .int .i64 y]
@[simp] theorem res_size (f : Int) (v : Value) (o : Ord) (g y : Int) : (resArr f v o g y).size = 11 := rfl
theorem res_one (f : Int) (A : Option Addr) (n cap : Nat) (o : Ord) (g y : Int) : (resArr f (.slice A n cap) o g y).all (·.oneCell') = true := by simp [resArr, Value.oneCell']
/-- What Enter leaves. -/
def EnPost (w : World) (c : Nat → Nat) (b N most k : Nat) (r : Rs × List Ord) (x : Ending) (w' : World) : Prop :=
  ∃ A cap c' ss', x = .returned (.agg (resArr r.1.fault (.slice A r.1.fills.length cap) r.1.rest r.1.gone r.1.why)) ∧ Rd w' 4 A (r.1.fills.map Fl.cells) ∧ (∀ a, A = some a → w.heap.size ≤ a.block ∧ a.block < w'.heap.size) ∧ Bs w' c' b N most k ss' ∧ osOf ss' = r.2 ∧ Cs c c' w w'
theorem mk_mem (t : Tk) : ∀ (l : List Ord) (q : Int), ∀ f ∈ (mk t l q).1, ∃ o ∈ l, f.id = o.id
  | [], q => by simp [mk]
  | o :: l, q => by
    unfold mk
    split
    · simp
    · split
      · simp
      · split
        · simp
        · split
          · intro f hf
            rcases List.mem_cons.1 hf with rfl | hf
            · exact ⟨o, by simp, rfl⟩
            · obtain ⟨x, hx, h⟩ := mk_mem t l _ f hf
              exact ⟨x, by simp [hx], h⟩
          · split
            · simp
            · split
              · intro f hf
                rw [List.mem_singleton.1 hf]
                exact ⟨o, by simp, rfl⟩
              · intro f hf
                rcases List.mem_cons.1 hf with rfl | hf
                · exact ⟨o, by simp, rfl⟩
                · obtain ⟨x, hx, h⟩ := mk_mem t l _ f hf
                  exact ⟨x, by simp [hx], h⟩
theorem mkP_wf {t : Tk} {os : List Ord} (h : ∀ o ∈ os, Idx.Wf o.id) : ∀ f ∈ (mkP t os).1, Idx.Wf f.id := by
  intro f hf
  unfold mkP at hf
  split at hf
  · obtain ⟨o, ho, e⟩ := mk_mem _ _ _ f hf
    rw [e]
    exact h o (Sw.srt_mem ho)
  · simp at hf
theorem results_res {fn : Func} {p : Tmp} (h : fn.results = #[.cell p 32]) (tmps : Array Value) (w : World) (g : Nat) (cs : Array Value) (hp : tmps.getD p undef = .pointer (some ⟨g, 0, none⟩)) (hb : Blk w g 32 cs) (h3 : cs.size = 11) :
    (results fn tmps).run Tryz.prog w = .ok (.agg cs) w :=
  results_cell_row h _ _ _ _ _ _ _ hp hb Tryz.underlying32 rfl (by rw [h3]; kernel_rfl)
section
variable {w : World} {c : Nat → Nat} {b N most k : Nat} {ss : List Sl}
/-- Something is wrong: nothing is done. -/
theorem enter_bad (S : Bs w c b N most k ss) (e : En) (hid : Idx.Wf e.o.id) (hp : I64 e.o.price) (hq : e.o.qty ≤ 9223372036854775807) (hc : checkF N most (osOf ss) e ≠ 0) : Calls Tryz.prog 6 #[.pointer (some ⟨b, 0, none⟩), .agg e.arr] w (EnPost w c b N most k (enterF N most (osOf ss) e)) := by
  have hE0 : Blk ((w.alloc (.cells e.arr 37)).alloc (.cells (resArr 0 (.slice none 0 0) Are.ord0 0 0) 32)) w.heap.size 37 e.arr := (Blk.new w _ _ _ rfl).alloc _
  have hR0 : Blk ((w.alloc (.cells e.arr 37)).alloc (.cells (resArr 0 (.slice none 0 0) Are.ord0 0 0) 32)) (w.heap.size + 1) 32 (resArr 0 (.slice none 0 0) Are.ord0 0 0) := Blk.new _ _ _ _ (sz_alloc _ _)
  have hb0 : Below w.heap.size w ((w.alloc (.cells e.arr 37)).alloc (.cells (resArr 0 (.slice none 0 0) Are.ord0 0 0) 32)) := by (repeat (first | with_reducible exact Below.refl _ _ | (with_reducible assumption) | (with_reducible refine below_alloc ?_ _) | (with_reducible refine below_ext (w1 := ?_) ?_ ?_; rotate_left 2; (with_reducible assumption)) | (with_reducible refine Below.setCell ?_ ?_ _; rotate_left; ((try simp) <;> omega)) | (with_reducible refine Below.drew ?_) | (with_reducible refine below_drewN ?_ _) | fail))
  have hr : enterF N most (osOf ss) e = (⟨checkF N most (osOf ss) e, [], Are.ord0, 0, 0⟩, osOf ss) := by unfold enterF; rw [if_pos hc]
  have HC := Lib.hid (check_any (S.ext hb0) e hid hp hq)
  have HS := Lib.hid S
  rw [hr]
  clear hr S
  generalize checkF N most (osOf ss) e = f at *
  have k0 : (f != 0) = true := by simpa using hc
  clear hc
  go_enter Tryz.func6, Tryz.ntmps6
  go_wp2_with (first | ((with_reducible show wpList _ _ _ (⟨_, .load 37 _, _, _, _, _⟩ :: _) _ _); refine wpList_load_ho 37 _ (by rfl) (by rfl) ?_ (.pointer (some ⟨_, 0, none⟩)) (by rfl) ?_ _ Tryz.underlying37 rfl ?_ ?_; rotate_left; (next => (repeat (first | (with_reducible refine BlkAt.new _ _ _ _ ?_; ((try simp) <;> omega)) | (with_reducible assumption) | (with_reducible refine Blk.at (t := ?_) ?_; rotate_left; with_reducible assumption) | with_reducible refine BlkAt.alloc ?_ _ | with_reducible refine BlkAt.drew ?_ | (with_reducible refine BlkAt.setSame ?_ _ _) | (with_reducible refine BlkAt.setCell ?_ ?_ _; rotate_left; ((try simp) <;> omega)) | (with_reducible refine BlkAt.ext (w := ?_) ?_ ?_; rotate_left 2; (with_reducible assumption)) | fail))); (next => kernel_rfl)) | (go_at_call 8; refine HC.out.mono ?_; rintro x w1 ⟨rfl, hb1⟩; have hR1 := hR0.ext hb1) | (((with_reducible show wpList _ _ _ (⟨_, .store _ _ _, _, _, _, _⟩ :: _) _ _); refine wpList_store_fld (by rfl) _ _ _ (by rfl) _ _ (by rfl) _ (by rfl) _ _ hR1 ?_ ?_ (by rfl) (by rfl) ?_; (next => first | omega | ((try simp) <;> omega)); (next => kernel_rfl); intro w2 hR2 hU2); replace hR2 : Blk w2 (w.heap.size + 1) 32 (resArr f (.slice none 0 0) Are.ord0 0 0) := hR2; have r0 : w2.cell? ⟨w.heap.size + 1, 0, none⟩ = some (.int .i64 f) := hR2.cell 0) | ((with_reducible show wpList _ _ _ (⟨_, .load 32 _, _, _, _, _⟩ :: _) _ _); refine wpList_load_ho 32 _ (by rfl) (by rfl) ?_ (.pointer (some ⟨_, 0, none⟩)) (by rfl) ?_ _ Tryz.underlying32 rfl ?_ ?_; rotate_left; (next => (repeat (first | (with_reducible refine BlkAt.new _ _ _ _ ?_; ((try simp) <;> omega)) | (with_reducible assumption) | (with_reducible refine Blk.at (t := ?_) ?_; rotate_left; with_reducible assumption) | with_reducible refine BlkAt.alloc ?_ _ | with_reducible refine BlkAt.drew ?_ | (with_reducible refine BlkAt.setSame ?_ _ _) | (with_reducible refine BlkAt.setCell ?_ ?_ _; rotate_left; ((try simp) <;> omega)) | (with_reducible refine BlkAt.ext (w := ?_) ?_ ?_; rotate_left 2; (with_reducible assumption)) | fail))); (next => kernel_rfl)) | ((with_reducible show wpList _ _ _ (⟨_, .store 32 _ _, _, _, _, _⟩ :: _) _ _); refine wpList_store_blk (by rfl) 32 _ _ (by rfl) _ _ (by rfl) (by rfl) _ _ hR2 (by kernel_rfl) (by rfl) ?_ ?_; (next => exact res_one ..); intro w3 hR3 hU3) | fail)
  have hb3 := below_upd (below_upd (below_ext hb0 hb1) (by omega) hU2) (by omega) hU3
  exact bodyPost_ret (results_res rfl _ _ _ _ (by rfl) hR3 rfl) rfl ⟨none, 0, c, ss, rfl, fun h => absurd rfl h, (fun a h => by cases h), HS.out.ext hb3, rfl, Cs.of_below hb3⟩
/-- What stands when a plan is applied: the entry, the plan, and the result with the fills. -/
structure Ea (w W : World) (c c' : Nat → Nat) (b N most k pb : Nat) (ss' : List Sl) (e : En) (A : Option Addr) (cap : Nat) (fs : List Fl) (left stop : Int) (os' : List Ord) : Prop where
  bs : Bs W c' b N most k ss'
  os : osOf ss' = os'
  cs : Cs c c' w W
  E : Blk W w.heap.size 37 e.arr
  P : Blk W pb 59 #[.slice A fs.length cap, .int .i64 left, .int .i64 stop]
  R : Blk W (w.heap.size + 1) 32 (resArr 0 (.slice none 0 0) Are.ord0 0 0)
  rd : Rd W 4 A (fs.map Fl.cells)
  far : ∀ a, A = some a → w.heap.size + 1 < a.block ∧ a.block < W.heap.size
  pne : pb ≠ w.heap.size + 1
  nine : c' w.heap.size = 9 ∧ c' (w.heap.size + 1) = 9 ∧ c' pb = 9 ∧ ∀ a, A = some a → c' a.block = 9
theorem Ea.ext {w W W' : World} {c c' : Nat → Nat} {b N most k pb : Nat} {ss' : List Sl} {e : En} {A : Option Addr} {cap : Nat} {fs : List Fl} {left stop : Int} {os' : List Ord} (h : Ea w W c c' b N most k pb ss' e A cap fs left stop os') (hb : Below W.heap.size W W') : Ea w W' c c' b N most k pb ss' e A cap fs left stop os' :=
  ⟨h.bs.ext hb, h.os, h.cs.trans (Cs.of_below hb), h.E.ext hb, h.P.ext hb, h.R.ext hb, h.rd.below hb, fun a q => by have := h.far a q; have := hb.size; omega, h.pne, h.nine⟩
/-- What is left of it when the result is written. -/
structure Eb (w W : World) (c c' : Nat → Nat) (b N most k : Nat) (ss' : List Sl) (A : Option Addr) (fs : List Fl) (os' : List Ord) : Prop where
  bs : Bs W c' b N most k ss'
  os : osOf ss' = os'
  cs : Cs c c' w W
  rd : Rd W 4 A (fs.map Fl.cells)
  far : ∀ a, A = some a → w.heap.size + 1 < a.block ∧ a.block < W.heap.size
  nine : c' (w.heap.size + 1) = 9 ∧ ∀ a, A = some a → c' a.block = 9
theorem Ea.toEb {w W : World} {c c' : Nat → Nat} {b N most k pb : Nat} {ss' : List Sl} {e : En} {A : Option Addr} {cap : Nat} {fs : List Fl} {left stop : Int} {os' : List Ord} (h : Ea w W c c' b N most k pb ss' e A cap fs left stop os') : Eb w W c c' b N most k ss' A fs os' := ⟨h.bs, h.os, h.cs, h.rd, h.far, h.nine.2.1, h.nine.2.2.2⟩
section
variable {w W W' : World} {c c' : Nat → Nat} {b N most k : Nat} {ss' : List Sl} {A : Option Addr} {fs : List Fl} {os' : List Ord}
theorem Eb.upd (h : Eb w W c c' b N most k ss' A fs os') (u : Upd (w.heap.size + 1) W W') : Eb w W' c c' b N most k ss' A fs os' :=
  ⟨h.bs.only9 (Bk.Only.upd9 u h.nine.1), h.os, h.cs.upd (by omega) u, h.rd.upd (fun a q => by have := h.far a q; omega) u, fun a q => by have := h.far a q; have := u.size; omega, h.nine⟩
/-- A step on the book. -/
theorem Eb.step {c2 : Nat → Nat} {k2 : Nat} {ss2 : List Sl} {os2 : List Ord} (h : Eb w W c c' b N most k ss' A fs os') (B : Bs W' c2 b N most k2 ss2) (ho : osOf ss2 = os2) (hs : Cs c' c2 W W') (hl : w.heap.size + 1 < W.heap.size) : Eb w W' c c2 b N most k2 ss2 A fs os2 :=
  ⟨B, ho, h.cs.trans hs, hs.rd h.rd h.nine.2 (fun a q => (h.far a q).2), fun a q => by have := h.far a q; have := hs.size; omega, (hs.old _ hl).trans h.nine.1, fun a q => (hs.old _ (h.far a q).2).trans (h.nine.2 a q)⟩
theorem Eb.ext (h : Eb w W c c' b N most k ss' A fs os') (hb : Below W.heap.size W W') : Eb w W' c c' b N most k ss' A fs os' :=
  ⟨h.bs.ext hb, h.os, h.cs.trans (Cs.of_below hb), h.rd.below hb, fun a q => by have := h.far a q; have := hb.size; omega, h.nine⟩
end
def S9 (w : World) (pb : Nat) (e : En) (A : Option Addr) (n cap : Nat) (left stop : Int) (W : World) : Prop := W.cell? ⟨pb, 1, none⟩ = some (.int .i64 left) ∧ (Blk W pb 59 #[.slice A n cap, .int .i64 left, .int .i64 stop] ∧ Blk W w.heap.size 37 e.arr)
theorem enter_gone (S : Bs w c b N most k ss) (e : En) (hid : Idx.Wf e.o.id) (hp : I64 e.o.price) (hq : e.o.qty ≤ 9223372036854775807) (hc : checkF N most (osOf ss) e = 0) (hr0 : restsF (osOf ss) e (mkP (tkE e) (osOf ss)) = false) (hk : k + (mkP (tkE e) (osOf ss)).1.length + 1 < 1000) :
    Calls Tryz.prog 6 #[.pointer (some ⟨b, 0, none⟩), .agg e.arr] w (EnPost w c b N most (k + (mkP (tkE e) (osOf ss)).1.length + 1) (enterF N most (osOf ss) e)) := by
  have hE0 : Blk ((w.alloc (.cells e.arr 37)).alloc (.cells (resArr 0 (.slice none 0 0) Are.ord0 0 0) 32)) w.heap.size 37 e.arr := (Blk.new w _ _ _ rfl).alloc _
  have hR0 : Blk ((w.alloc (.cells e.arr 37)).alloc (.cells (resArr 0 (.slice none 0 0) Are.ord0 0 0) 32)) (w.heap.size + 1) 32 (resArr 0 (.slice none 0 0) Are.ord0 0 0) := Blk.new _ _ _ _ (sz_alloc _ _)
  have hb0 : Below w.heap.size w ((w.alloc (.cells e.arr 37)).alloc (.cells (resArr 0 (.slice none 0 0) Are.ord0 0 0) 32)) := by (repeat (first | with_reducible exact Below.refl _ _ | (with_reducible assumption) | (with_reducible refine below_alloc ?_ _) | (with_reducible refine below_ext (w1 := ?_) ?_ ?_; rotate_left 2; (with_reducible assumption)) | (with_reducible refine Below.setCell ?_ ?_ _; rotate_left; ((try simp) <;> omega)) | (with_reducible refine Below.drew ?_) | (with_reducible refine below_drewN ?_ _) | fail))
  have hr : enterF N most (osOf ss) e = (⟨0, (mkP (tkE e) (osOf ss)).1, Are.ord0, (mkP (tkE e) (osOf ss)).2.1, whyF e (mkP (tkE e) (osOf ss))⟩, (appF (mkP (tkE e) (osOf ss)).1 (osOf ss)).2) := by unfold enterF; rw [if_neg (by rw [hc]; simp), if_neg (by rw [hr0]; simp)]
  have hsd := (good hc).side
  have HC := Lib.hid (check_any (S.ext hb0) e hid hp hq)
  rw [hc] at HC
  have HPL := Lib.hid (fun W (hW : Below w.heap.size w W) => plan_any (S.ext hW) e hq)
  have hlen : (mkP (tkE e) (osOf ss)).1.length ≤ 500 := Nat.le_trans (mkP_len _ _) (Sw.Bs.few S)
  have hwf : ∀ f ∈ (mkP (tkE e) (osOf ss)).1, Idx.Wf f.id := mkP_wf (fun o ho => (Sw.Bs.okk S o ho).2.2.2)
  have h9 : ∀ r, w.heap.size ≤ r → c r = 9 := fun r h => Bk.Bs.out14 S h
  have HY := Lib.hid (fun (v : Value) (hv : v.cells = #[v]) W => why_any e v hv (mkP (tkE e) (osOf ss)) W)
  rw [hr]
  clear hr hc
  obtain ⟨pr, hpr⟩ : ∃ pr, pr = mkP (tkE e) (osOf ss) := ⟨_, rfl⟩
  rw [← hpr] at HPL hlen hwf hr0 hk HY
  rw [← hpr]
  clear hpr
  have hy9 : ∃ y, y = whyF e pr := ⟨_, rfl⟩
  obtain ⟨y9, hy9⟩ := hy9
  rw [← hy9] at HY
  rw [← hy9]
  clear hy9
  obtain ⟨fs, left, stop⟩ := pr
  simp only at hlen hwf hk HY
  simp only
  have HS := Lib.hid S
  have HWF := Lib.hid hwf
  have HK := Lib.hid hk
  have H9 := Lib.hid h9
  have HSD := Lib.hid hsd
  have HR0 := Lib.hid hr0
  clear S hwf hk h9 hsd hr0
  go_enter Tryz.func6, Tryz.ntmps6
  go_wp2_with (first | ((with_reducible show wpList _ _ _ (⟨_, .load 37 _, _, _, _, _⟩ :: _) _ _); refine wpList_load_ho 37 _ (by rfl) (by rfl) ?_ (.pointer (some ⟨_, 0, none⟩)) (by rfl) ?_ _ Tryz.underlying37 rfl ?_ ?_; rotate_left; (next => (repeat (first | (with_reducible refine BlkAt.new _ _ _ _ ?_; ((try simp) <;> omega)) | (with_reducible assumption) | (with_reducible refine Blk.at (t := ?_) ?_; rotate_left; with_reducible assumption) | with_reducible refine BlkAt.alloc ?_ _ | with_reducible refine BlkAt.drew ?_ | (with_reducible refine BlkAt.setSame ?_ _ _) | (with_reducible refine BlkAt.setCell ?_ ?_ _; rotate_left; ((try simp) <;> omega)) | (with_reducible refine BlkAt.ext (w := ?_) ?_ ?_; rotate_left 2; (with_reducible assumption)) | fail))); (next => kernel_rfl)) | (go_at_call 8; refine HC.out.mono ?_; rintro x w1 ⟨rfl, hb1⟩; have hR1 := hR0.ext hb1; have hE1 := hE0.ext hb1; have hB1 := below_ext hb0 hb1) | (((with_reducible show wpList _ _ _ (⟨_, .store _ _ _, _, _, _, _⟩ :: _) _ _); refine wpList_store_fld (by rfl) _ _ _ (by rfl) _ _ (by rfl) _ (by rfl) _ _ hR1 ?_ ?_ (by rfl) (by rfl) ?_; (next => first | omega | ((try simp) <;> omega)); (next => kernel_rfl); intro w2 hR2 hU2); replace hR2 : Blk w2 (w.heap.size + 1) 32 (resArr 0 (.slice none 0 0) Are.ord0 0 0) := hR2; have r0 : w2.cell? ⟨w.heap.size + 1, 0, none⟩ = some (.int .i64 0) := hR2.cell 0; have hB2 := below_upd hB1 (show w.heap.size ≤ w.heap.size + 1 by omega) hU2; have hE2 : Blk w2 w.heap.size 37 e.arr := Blk.upd hE1 (by omega) hU2) | fail)
  refine (HPL.out _ hB2).mono ?_
  rintro x w3 ⟨⟨v, rfl, hown3⟩, hb3⟩
  obtain ⟨A3, cp3, rfl, hrd3, _, _, hf3⟩ := Sw.owns_fl hown3
  have hP3 : Blk (w3.alloc (.cells #[.slice none 0 0, .int .i64 0, .int .i64 0] 59)) w3.heap.size 59 #[.slice none 0 0, .int .i64 0, .int .i64 0] := Blk.new _ _ _ _ rfl
  clear hown3 HC hR0 hE0 hb0 hR1 hE1 hB1 hb1 hU2 r0
  go_wp2_with (first | (((with_reducible show wpList _ _ _ (⟨_, .store 59 _ _, _, _, _, _⟩ :: _) _ _); refine wpList_store_blk (by rfl) 59 _ _ (by rfl) _ _ (by rfl) (by rfl) _ _ hP3 (by kernel_rfl) (by rfl) ?_ ?_; (next => first | (simp [Value.oneCell']; done) | (simp [Value.oneCell', Edt.cells]; done) | exact Are.ordArr_one _); intro w4 hP4 hU4); have hb34 : Below w3.heap.size w3 w4 := below_upd (by (repeat (first | with_reducible exact Below.refl _ _ | (with_reducible assumption) | (with_reducible refine below_alloc ?_ _) | (with_reducible refine below_ext (w1 := ?_) ?_ ?_; rotate_left 2; (with_reducible assumption)) | (with_reducible refine Below.setCell ?_ ?_ _; rotate_left; ((try simp) <;> omega)) | (with_reducible refine Below.drew ?_) | (with_reducible refine below_drewN ?_ _) | fail))) (Nat.le_refl _) hU4; have hb24 := below_ext hb3 hb34; have hB4 := below_ext hB2 hb24; have hR4 := hR2.ext hb24; have hE4 := hE2.ext hb24) | ((with_reducible show wpList _ _ _ (⟨_, .load 37 _, _, _, _, _⟩ :: _) _ _); refine wpList_load_ho 37 _ (by rfl) (by rfl) ?_ (.pointer (some ⟨_, 0, none⟩)) (by rfl) ?_ _ Tryz.underlying37 rfl ?_ ?_; rotate_left; (next => (repeat (first | (with_reducible refine BlkAt.new _ _ _ _ ?_; ((try simp) <;> omega)) | (with_reducible assumption) | (with_reducible refine Blk.at (t := ?_) ?_; rotate_left; with_reducible assumption) | with_reducible refine BlkAt.alloc ?_ _ | with_reducible refine BlkAt.drew ?_ | (with_reducible refine BlkAt.setSame ?_ _ _) | (with_reducible refine BlkAt.setCell ?_ ?_ _; rotate_left; ((try simp) <;> omega)) | (with_reducible refine BlkAt.ext (w := ?_) ?_ ?_; rotate_left 2; (with_reducible assumption)) | fail))); (next => kernel_rfl)) | ((with_reducible show wpList _ _ _ (⟨_, .load 59 _, _, _, _, _⟩ :: _) _ _); refine wpList_load_ho 59 _ (by rfl) (by rfl) ?_ (.pointer (some ⟨_, 0, none⟩)) (by rfl) ?_ _ Tryz.underlying59 rfl ?_ ?_; rotate_left; (next => (repeat (first | (with_reducible refine BlkAt.new _ _ _ _ ?_; ((try simp) <;> omega)) | (with_reducible assumption) | (with_reducible refine Blk.at (t := ?_) ?_; rotate_left; with_reducible assumption) | with_reducible refine BlkAt.alloc ?_ _ | with_reducible refine BlkAt.drew ?_ | (with_reducible refine BlkAt.setSame ?_ _ _) | (with_reducible refine BlkAt.setCell ?_ ?_ _; rotate_left; ((try simp) <;> omega)) | (with_reducible refine BlkAt.ext (w := ?_) ?_ ?_; rotate_left 2; (with_reducible assumption)) | fail))); (next => kernel_rfl)) | fail)
  have hrd4 := hrd3.below hb34
  have hf4 : ∀ a, A3 = some a → w2.heap.size ≤ a.block ∧ a.block < w4.heap.size := fun a h => by have := hf3 a h; have := hb34.size; omega
  have hz2 := hR2.lt
  have hz3 := hb3.size
  obtain ⟨pb, hpb⟩ : ∃ n, n = w3.heap.size := ⟨_, rfl⟩
  rw [← hpb] at hP4 hz3
  rw [← hpb]
  have hRS := (rests_any (HS.out.ext hB4) e HSD.out hrd4 (fun a h => (hf4 a h).2) (cap := cp3) hlen left stop)
  rw [HR0.out] at hRS
  have HRS := Lib.hid hRS
  clear hRS hP3 hU4 hb34 hb24 hR2 hE2 hrd3 hf3 hpb hb3
  refine HRS.out.mono ?_
  rintro x w5 ⟨rfl, hb5⟩
  have hB5 := below_ext hB4 hb5
  have hP5 := hP4.ext hb5
  have hR5 := hR4.ext hb5
  have hE5 := hE4.ext hb5
  have hrd5 := hrd4.below hb5
  have hf5 : ∀ a, A3 = some a → w2.heap.size ≤ a.block ∧ a.block < w5.heap.size := fun a h => by have := hf4 a h; have := hb5.size; omega
  clear hP4 hR4 hE4 hrd4 hf4 HRS hb5 hB4
  have HAP := Lib.hid (Sw.apply_any (left := left) (stop := stop) (cap := cp3) (HS.out.ext hB5) hrd5 (fun a h => ⟨H9.out _ (by have := (hf5 a h).1; omega), (hf5 a h).2⟩) HWF.out (by have := HK.out; omega))
  go_wp2_with (first | ((with_reducible show wpList _ _ _ (⟨_, .load 59 _, _, _, _, _⟩ :: _) _ _); refine wpList_load_ho 59 _ (by rfl) (by rfl) ?_ (.pointer (some ⟨_, 0, none⟩)) (by rfl) ?_ _ Tryz.underlying59 rfl ?_ ?_; rotate_left; (next => (repeat (first | (with_reducible refine BlkAt.new _ _ _ _ ?_; ((try simp) <;> omega)) | (with_reducible assumption) | (with_reducible refine Blk.at (t := ?_) ?_; rotate_left; with_reducible assumption) | with_reducible refine BlkAt.alloc ?_ _ | with_reducible refine BlkAt.drew ?_ | (with_reducible refine BlkAt.setSame ?_ _ _) | (with_reducible refine BlkAt.setCell ?_ ?_ _; rotate_left; ((try simp) <;> omega)) | (with_reducible refine BlkAt.ext (w := ?_) ?_ ?_; rotate_left 2; (with_reducible assumption)) | fail))); (next => kernel_rfl)) | fail)
  refine HAP.out.mono ?_
  rintro x w6 ⟨rfl, c6, ss6, hB6, hos6, hcs6⟩
  have EA : Ea w w6 c c6 b N most (k + fs.length) pb ss6 e A3 cp3 fs left stop (appF fs (osOf ss)).2 :=
    ⟨hB6, hos6, (Cs.of_below hB5).trans hcs6, hcs6.blk hE5 (H9.out _ (Nat.le_refl _)), hcs6.blk hP5 (H9.out _ (by omega)), hcs6.blk hR5 (H9.out _ (by omega)), hcs6.rd hrd5 (fun a h => H9.out _ (by have := (hf5 a h).1; omega)) (fun a h => (hf5 a h).2), fun a h => by have := hf5 a h; have := hcs6.size; omega, by omega,
      hcs6.nine hE5.lt (H9.out _ (Nat.le_refl _)), hcs6.nine hR5.lt (H9.out _ (by omega)), hcs6.nine hP5.lt (H9.out _ (by omega)), fun a h => hcs6.nine (hf5 a h).2 (H9.out _ (by have := (hf5 a h).1; omega))⟩
  have HEA := Lib.hid EA
  have hR6 := EA.R
  have p0 : w6.cell? ⟨pb, 0, none⟩ = some (.slice A3 fs.length cp3) := EA.P.cell 0
  have hne := EA.pne
  have hzz := EA.E.lt
  clear HAP hcs6 hos6 hB6 hP5 hR5 hE5 hrd5 hf5 hB5 hlen EA HSD HWF HR0 HPL H9
  go_wp2_with (first | (((with_reducible show wpList _ _ _ (⟨_, .store _ _ _, _, _, _, _⟩ :: _) _ _); refine wpList_store_fld (by rfl) _ _ _ (by rfl) _ _ (by rfl) _ (by rfl) _ _ hR6 ?_ ?_ (by rfl) (by rfl) ?_; (next => first | omega | ((try simp) <;> omega)); (next => kernel_rfl); intro w7 hR7 hU7); replace hR7 : Blk w7 (w.heap.size + 1) 32 (resArr 0 (.slice A3 fs.length cp3) Are.ord0 0 0) := hR7) | fail)
  obtain ⟨EA⟩ : Nonempty (Ea w w6 c c6 b N most (k + fs.length) pb ss6 e A3 cp3 fs left stop (appF fs (osOf ss)).2) := ⟨HEA.out⟩
  have hE7 : Blk w7 w.heap.size 37 e.arr := EA.E.upd (by omega) hU7
  have hP7 : Blk w7 pb 59 #[.slice A3 fs.length cp3, .int .i64 left, .int .i64 stop] := EA.P.upd hne hU7
  clear EA hR6 p0
  refine wp_region_T (S := S9 w pb e A3 fs.length cp3 left stop) 9 (by kernel_rfl) ?_
  have hb78 : Below w7.heap.size w7 w7.drew := (Below.refl _ _).drew
  have hR8 : Blk w7.drew (w.heap.size + 1) 32 (resArr 0 (.slice A3 fs.length cp3) Are.ord0 0 0) := hR7.drew
  have hS : S9 w pb e A3 fs.length cp3 left stop w7.drew := ⟨(hP7.drew).cell 1, hP7.drew, hE7.drew⟩
  generalize w7.drew = w8 at *
  (refine T_take (i := 0) rfl (by kernel_rfl) (fun _ _ _ _ h => h) hS ?_; apply Exists.intro; refine ⟨.inl ⟨by rfl, fun W hW => ?_⟩, ?_⟩; (next => (obtain ⟨hs1, hs2⟩ := hW; go_simp; first | done | rfl)); simp only [Act.put, List.setIfInBounds_toArray, List.set_cons_zero, List.set_cons_succ])
  (refine T_take (i := 1) rfl (by kernel_rfl) (fun _ _ _ _ h => h) hS ?_; apply Exists.intro; refine ⟨.inl ⟨by rfl, fun W hW => ?_⟩, ?_⟩; (next => (obtain ⟨hs1, hs2⟩ := hW; go_simp; first | done | rfl)); simp only [Act.put, List.setIfInBounds_toArray, List.set_cons_zero, List.set_cons_succ])
  (refine T_take (i := 2) rfl (by kernel_rfl) (fun _ _ _ _ h => h) hS ?_; refine ⟨_, y_load_blk 37 _ rfl (by rfl) w.heap.size (by rfl) 37 e.arr _ (fun W h => h.2.2) Tryz.underlying37 rfl (by kernel_rfl), ?_⟩; simp only [Act.put, List.setIfInBounds_toArray, List.set_cons_zero, List.set_cons_succ])
  (refine T_take (i := 3) rfl (by kernel_rfl) (fun _ _ _ _ h => h) hS ?_; refine ⟨_, y_load_blk 59 _ rfl (by rfl) pb (by rfl) 59 _ _ (fun W h => h.2.1) Tryz.underlying59 rfl (by kernel_rfl), ?_⟩; simp only [Act.put, List.setIfInBounds_toArray, List.set_cons_zero, List.set_cons_succ])
  (refine T_take (i := 5) rfl (by kernel_rfl) (fun _ _ _ _ h => h) hS ?_; apply Exists.intro; refine ⟨.inl ⟨by rfl, fun W hW => ?_⟩, ?_⟩; (next => (obtain ⟨hs1, hs2⟩ := hW; go_simp; first | done | rfl)); simp only [Act.put, List.setIfInBounds_toArray, List.set_cons_zero, List.set_cons_succ])
  refine T_all [4] (by kernel_rfl) (by decide) ?_
  intro j hj
  simp only [List.mem_cons, or_false, List.not_mem_nil] at hj
  subst hj
  refine T_op rfl (by rfl) ?_
  refine wp_enterE (ops := #[]) (F := 18) (args := #[.agg e.arr, .agg #[.slice A3 fs.length cp3, .int .i64 left, .int .i64 stop]]) ?_ ?_
  (next => first | (go_simp; done) | (go_simp; rfl))
  refine (HY.out (.slice A3 fs.length cp3) rfl _).mono ?_
  rintro x w9 ⟨rfl, hb9⟩
  have hS9 : S9 w pb e A3 fs.length cp3 left stop w9 := ⟨(hS.2.1.ext hb9).cell 1, hS.2.1.ext hb9, hS.2.2.ext hb9⟩
  have hR9 := hR8.ext hb9
  refine ⟨_, rfl, .inr hS9, ?_⟩
  simp only [Act.put, List.setIfInBounds_toArray, List.set_cons_zero, List.set_cons_succ]
  refine T_all [6] (by kernel_rfl) (by decide) ?_
  intro j hj
  simp only [List.mem_cons, or_false, List.not_mem_nil] at hj
  subst hj
  refine T_op rfl (by rfl) ?_
  refine wp_store_fld _ _ _ (by rfl) (w.heap.size + 1) 9 (by rfl) (.int .i64 left) (by rfl) _ _ hR9 (by simp) (by kernel_rfl) rfl rfl ?_
  intro w10 hR10 hU10
  replace hR10 : Blk w10 (w.heap.size + 1) 32 (resArr 0 (.slice A3 fs.length cp3) Are.ord0 left 0) := hR10
  have hP10 := hS9.2.1.upd hne hU10
  have hE10 := hS9.2.2.upd (by omega) hU10
  have hS : S9 w pb e A3 fs.length cp3 left stop w10 := ⟨hP10.cell 1, hP10, hE10⟩
  refine ⟨.inr hS, ?_⟩
  simp only [Act.put]
  (refine T_take (i := 7) rfl (by kernel_rfl) (fun _ _ _ _ h => h) hS ?_; apply Exists.intro; refine ⟨.inl ⟨by rfl, fun W hW => ?_⟩, ?_⟩; (next => (obtain ⟨hs1, hs2⟩ := hW; go_simp; first | done | rfl)); simp only [Act.put, List.setIfInBounds_toArray, List.set_cons_zero, List.set_cons_succ])
  refine T_all [8] (by kernel_rfl) (by decide) ?_
  intro j hj
  simp only [List.mem_cons, or_false, List.not_mem_nil] at hj
  subst hj
  refine T_op rfl (by rfl) ?_
  refine wp_store_fld _ _ _ (by rfl) (w.heap.size + 1) 10 (by rfl) (.int .i64 y9) (by rfl) _ _ hR10 (by simp) (by kernel_rfl) rfl rfl ?_
  intro w11 hR11 hU11
  replace hR11 : Blk w11 (w.heap.size + 1) 32 (resArr 0 (.slice A3 fs.length cp3) Are.ord0 left y9) := hR11
  have hP11 := hP10.upd hne hU11
  have hE11 := hE10.upd (by omega) hU11
  refine ⟨.inr ⟨hP11.cell 1, hP11, hE11⟩, ?_⟩
  simp only [Act.put]
  refine T_done (by kernel_rfl) ?_
  go_wp2_with (first | ((with_reducible show wpList _ _ _ (⟨_, .load 32 _, _, _, _, _⟩ :: _) _ _); refine wpList_load_ho 32 _ (by rfl) (by rfl) ?_ (.pointer (some ⟨_, 0, none⟩)) (by rfl) ?_ _ Tryz.underlying32 rfl ?_ ?_; rotate_left; (next => (repeat (first | (with_reducible refine BlkAt.new _ _ _ _ ?_; ((try simp) <;> omega)) | (with_reducible assumption) | (with_reducible refine Blk.at (t := ?_) ?_; rotate_left; with_reducible assumption) | with_reducible refine BlkAt.alloc ?_ _ | with_reducible refine BlkAt.drew ?_ | (with_reducible refine BlkAt.setSame ?_ _ _) | (with_reducible refine BlkAt.setCell ?_ ?_ _; rotate_left; ((try simp) <;> omega)) | (with_reducible refine BlkAt.ext (w := ?_) ?_ ?_; rotate_left 2; (with_reducible assumption)) | fail))); (next => kernel_rfl)) | ((with_reducible show wpList _ _ _ (⟨_, .store 32 _ _, _, _, _, _⟩ :: _) _ _); refine wpList_store_blk (by rfl) 32 _ _ (by rfl) _ _ (by rfl) (by rfl) _ _ hR11 (by kernel_rfl) (by rfl) ?_ ?_; (next => exact res_one ..); intro w12 hR12 hU12) | fail)
  refine bodyPost_ret (results_res rfl _ _ _ _ (by rfl) hR12 rfl) rfl ⟨A3, cp3, c6, ss6, rfl, ?_⟩
  have EB := ((((((HEA.out.toEb).upd hU7).ext hb78).ext hb9).upd hU10).upd hU11).upd hU12
  exact ⟨EB.rd, fun a q => by have := EB.far a q; omega, EB.bs.mono1 (by have := HK.out; omega), EB.os, EB.cs⟩
theorem enter_rest (S : Bs w c b N most k ss) (e : En) (hid : Idx.Wf e.o.id) (hp : I64 e.o.price) (hq : e.o.qty ≤ 9223372036854775807) (hc : checkF N most (osOf ss) e = 0) (hr0 : restsF (osOf ss) e (mkP (tkE e) (osOf ss)) = true) (hk : k + (mkP (tkE e) (osOf ss)).1.length + 1 < 1000) :
    Calls Tryz.prog 6 #[.pointer (some ⟨b, 0, none⟩), .agg e.arr] w (EnPost w c b N most (k + (mkP (tkE e) (osOf ss)).1.length + 1) (enterF N most (osOf ss) e)) := by
  have hE0 : Blk ((w.alloc (.cells e.arr 37)).alloc (.cells (resArr 0 (.slice none 0 0) Are.ord0 0 0) 32)) w.heap.size 37 e.arr := (Blk.new w _ _ _ rfl).alloc _
  have hR0 : Blk ((w.alloc (.cells e.arr 37)).alloc (.cells (resArr 0 (.slice none 0 0) Are.ord0 0 0) 32)) (w.heap.size + 1) 32 (resArr 0 (.slice none 0 0) Are.ord0 0 0) := Blk.new _ _ _ _ (sz_alloc _ _)
  have hb0 : Below w.heap.size w ((w.alloc (.cells e.arr 37)).alloc (.cells (resArr 0 (.slice none 0 0) Are.ord0 0 0) 32)) := by (repeat (first | with_reducible exact Below.refl _ _ | (with_reducible assumption) | (with_reducible refine below_alloc ?_ _) | (with_reducible refine below_ext (w1 := ?_) ?_ ?_; rotate_left 2; (with_reducible assumption)) | (with_reducible refine Below.setCell ?_ ?_ _; rotate_left; ((try simp) <;> omega)) | (with_reducible refine Below.drew ?_) | (with_reducible refine below_drewN ?_ _) | fail))
  have hr : enterF N most (osOf ss) e = (⟨0, (mkP (tkE e) (osOf ss)).1, restO e (mkP (tkE e) (osOf ss)).2.1, 0, 0⟩, addO N most (appF (mkP (tkE e) (osOf ss)).1 (osOf ss)).2 (restO e (mkP (tkE e) (osOf ss)).2.1)) := by unfold enterF; rw [if_neg (by rw [hc]; simp), if_pos hr0]
  have hsd := (good hc).side
  have HC := Lib.hid (check_any (S.ext hb0) e hid hp hq)
  rw [hc] at HC
  have HPL := Lib.hid (fun W (hW : Below w.heap.size w W) => plan_any (S.ext hW) e hq)
  have hlen : (mkP (tkE e) (osOf ss)).1.length ≤ 500 := Nat.le_trans (mkP_len _ _) (Sw.Bs.few S)
  have hwf : ∀ f ∈ (mkP (tkE e) (osOf ss)).1, Idx.Wf f.id := mkP_wf (fun o ho => (Sw.Bs.okk S o ho).2.2.2)
  have h9 : ∀ r, w.heap.size ≤ r → c r = 9 := fun r h => Bk.Bs.out14 S h
  have HY := Lib.hid (fun W => edge_any e W)
  rw [hr]
  clear hr hc
  obtain ⟨pr, hpr⟩ : ∃ pr, pr = mkP (tkE e) (osOf ss) := ⟨_, rfl⟩
  rw [← hpr] at HPL hlen hwf hr0 hk
  rw [← hpr]
  clear hpr
  obtain ⟨fs, left, stop⟩ := pr
  simp only at hlen hwf hk
  simp only
  have HS := Lib.hid S
  have HWF := Lib.hid hwf
  have HK := Lib.hid hk
  have H9 := Lib.hid h9
  have HSD := Lib.hid hsd
  have HR0 := Lib.hid hr0
  clear S hwf hk h9 hsd hr0
  go_enter Tryz.func6, Tryz.ntmps6
  go_wp2_with (first | ((with_reducible show wpList _ _ _ (⟨_, .load 37 _, _, _, _, _⟩ :: _) _ _); refine wpList_load_ho 37 _ (by rfl) (by rfl) ?_ (.pointer (some ⟨_, 0, none⟩)) (by rfl) ?_ _ Tryz.underlying37 rfl ?_ ?_; rotate_left; (next => (repeat (first | (with_reducible refine BlkAt.new _ _ _ _ ?_; ((try simp) <;> omega)) | (with_reducible assumption) | (with_reducible refine Blk.at (t := ?_) ?_; rotate_left; with_reducible assumption) | with_reducible refine BlkAt.alloc ?_ _ | with_reducible refine BlkAt.drew ?_ | (with_reducible refine BlkAt.setSame ?_ _ _) | (with_reducible refine BlkAt.setCell ?_ ?_ _; rotate_left; ((try simp) <;> omega)) | (with_reducible refine BlkAt.ext (w := ?_) ?_ ?_; rotate_left 2; (with_reducible assumption)) | fail))); (next => kernel_rfl)) | (go_at_call 8; refine HC.out.mono ?_; rintro x w1 ⟨rfl, hb1⟩; have hR1 := hR0.ext hb1; have hE1 := hE0.ext hb1; have hB1 := below_ext hb0 hb1) | (((with_reducible show wpList _ _ _ (⟨_, .store _ _ _, _, _, _, _⟩ :: _) _ _); refine wpList_store_fld (by rfl) _ _ _ (by rfl) _ _ (by rfl) _ (by rfl) _ _ hR1 ?_ ?_ (by rfl) (by rfl) ?_; (next => first | omega | ((try simp) <;> omega)); (next => kernel_rfl); intro w2 hR2 hU2); replace hR2 : Blk w2 (w.heap.size + 1) 32 (resArr 0 (.slice none 0 0) Are.ord0 0 0) := hR2; have r0 : w2.cell? ⟨w.heap.size + 1, 0, none⟩ = some (.int .i64 0) := hR2.cell 0; have hB2 := below_upd hB1 (show w.heap.size ≤ w.heap.size + 1 by omega) hU2; have hE2 : Blk w2 w.heap.size 37 e.arr := Blk.upd hE1 (by omega) hU2) | fail)
  refine (HPL.out _ hB2).mono ?_
  rintro x w3 ⟨⟨v, rfl, hown3⟩, hb3⟩
  obtain ⟨A3, cp3, rfl, hrd3, _, _, hf3⟩ := Sw.owns_fl hown3
  have hP3 : Blk (w3.alloc (.cells #[.slice none 0 0, .int .i64 0, .int .i64 0] 59)) w3.heap.size 59 #[.slice none 0 0, .int .i64 0, .int .i64 0] := Blk.new _ _ _ _ rfl
  clear hown3 HC hR0 hE0 hb0 hR1 hE1 hB1 hb1 hU2 r0
  go_wp2_with (first | (((with_reducible show wpList _ _ _ (⟨_, .store 59 _ _, _, _, _, _⟩ :: _) _ _); refine wpList_store_blk (by rfl) 59 _ _ (by rfl) _ _ (by rfl) (by rfl) _ _ hP3 (by kernel_rfl) (by rfl) ?_ ?_; (next => first | (simp [Value.oneCell']; done) | (simp [Value.oneCell', Edt.cells]; done) | exact Are.ordArr_one _); intro w4 hP4 hU4); have hb34 : Below w3.heap.size w3 w4 := below_upd (by (repeat (first | with_reducible exact Below.refl _ _ | (with_reducible assumption) | (with_reducible refine below_alloc ?_ _) | (with_reducible refine below_ext (w1 := ?_) ?_ ?_; rotate_left 2; (with_reducible assumption)) | (with_reducible refine Below.setCell ?_ ?_ _; rotate_left; ((try simp) <;> omega)) | (with_reducible refine Below.drew ?_) | (with_reducible refine below_drewN ?_ _) | fail))) (Nat.le_refl _) hU4; have hb24 := below_ext hb3 hb34; have hB4 := below_ext hB2 hb24; have hR4 := hR2.ext hb24; have hE4 := hE2.ext hb24) | ((with_reducible show wpList _ _ _ (⟨_, .load 37 _, _, _, _, _⟩ :: _) _ _); refine wpList_load_ho 37 _ (by rfl) (by rfl) ?_ (.pointer (some ⟨_, 0, none⟩)) (by rfl) ?_ _ Tryz.underlying37 rfl ?_ ?_; rotate_left; (next => (repeat (first | (with_reducible refine BlkAt.new _ _ _ _ ?_; ((try simp) <;> omega)) | (with_reducible assumption) | (with_reducible refine Blk.at (t := ?_) ?_; rotate_left; with_reducible assumption) | with_reducible refine BlkAt.alloc ?_ _ | with_reducible refine BlkAt.drew ?_ | (with_reducible refine BlkAt.setSame ?_ _ _) | (with_reducible refine BlkAt.setCell ?_ ?_ _; rotate_left; ((try simp) <;> omega)) | (with_reducible refine BlkAt.ext (w := ?_) ?_ ?_; rotate_left 2; (with_reducible assumption)) | fail))); (next => kernel_rfl)) | ((with_reducible show wpList _ _ _ (⟨_, .load 59 _, _, _, _, _⟩ :: _) _ _); refine wpList_load_ho 59 _ (by rfl) (by rfl) ?_ (.pointer (some ⟨_, 0, none⟩)) (by rfl) ?_ _ Tryz.underlying59 rfl ?_ ?_; rotate_left; (next => (repeat (first | (with_reducible refine BlkAt.new _ _ _ _ ?_; ((try simp) <;> omega)) | (with_reducible assumption) | (with_reducible refine Blk.at (t := ?_) ?_; rotate_left; with_reducible assumption) | with_reducible refine BlkAt.alloc ?_ _ | with_reducible refine BlkAt.drew ?_ | (with_reducible refine BlkAt.setSame ?_ _ _) | (with_reducible refine BlkAt.setCell ?_ ?_ _; rotate_left; ((try simp) <;> omega)) | (with_reducible refine BlkAt.ext (w := ?_) ?_ ?_; rotate_left 2; (with_reducible assumption)) | fail))); (next => kernel_rfl)) | fail)
  have hrd4 := hrd3.below hb34
  have hf4 : ∀ a, A3 = some a → w2.heap.size ≤ a.block ∧ a.block < w4.heap.size := fun a h => by have := hf3 a h; have := hb34.size; omega
  have hz2 := hR2.lt
  have hz3 := hb3.size
  obtain ⟨pb, hpb⟩ : ∃ n, n = w3.heap.size := ⟨_, rfl⟩
  rw [← hpb] at hP4 hz3
  rw [← hpb]
  have hRS := (rests_any (HS.out.ext hB4) e HSD.out hrd4 (fun a h => (hf4 a h).2) (cap := cp3) hlen left stop)
  rw [HR0.out] at hRS
  have HRS := Lib.hid hRS
  clear hRS hP3 hU4 hb34 hb24 hR2 hE2 hrd3 hf3 hpb hb3
  refine HRS.out.mono ?_
  rintro x w5 ⟨rfl, hb5⟩
  have hB5 := below_ext hB4 hb5
  have hP5 := hP4.ext hb5
  have hR5 := hR4.ext hb5
  have hE5 := hE4.ext hb5
  have hrd5 := hrd4.below hb5
  have hf5 : ∀ a, A3 = some a → w2.heap.size ≤ a.block ∧ a.block < w5.heap.size := fun a h => by have := hf4 a h; have := hb5.size; omega
  clear hP4 hR4 hE4 hrd4 hf4 HRS hb5 hB4
  have HAP := Lib.hid (Sw.apply_any (left := left) (stop := stop) (cap := cp3) (HS.out.ext hB5) hrd5 (fun a h => ⟨H9.out _ (by have := (hf5 a h).1; omega), (hf5 a h).2⟩) HWF.out (by have := HK.out; omega))
  go_wp2_with (first | ((with_reducible show wpList _ _ _ (⟨_, .load 59 _, _, _, _, _⟩ :: _) _ _); refine wpList_load_ho 59 _ (by rfl) (by rfl) ?_ (.pointer (some ⟨_, 0, none⟩)) (by rfl) ?_ _ Tryz.underlying59 rfl ?_ ?_; rotate_left; (next => (repeat (first | (with_reducible refine BlkAt.new _ _ _ _ ?_; ((try simp) <;> omega)) | (with_reducible assumption) | (with_reducible refine Blk.at (t := ?_) ?_; rotate_left; with_reducible assumption) | with_reducible refine BlkAt.alloc ?_ _ | with_reducible refine BlkAt.drew ?_ | (with_reducible refine BlkAt.setSame ?_ _ _) | (with_reducible refine BlkAt.setCell ?_ ?_ _; rotate_left; ((try simp) <;> omega)) | (with_reducible refine BlkAt.ext (w := ?_) ?_ ?_; rotate_left 2; (with_reducible assumption)) | fail))); (next => kernel_rfl)) | fail)
  refine HAP.out.mono ?_
  rintro x w6 ⟨rfl, c6, ss6, hB6, hos6, hcs6⟩
  have EA : Ea w w6 c c6 b N most (k + fs.length) pb ss6 e A3 cp3 fs left stop (appF fs (osOf ss)).2 :=
    ⟨hB6, hos6, (Cs.of_below hB5).trans hcs6, hcs6.blk hE5 (H9.out _ (Nat.le_refl _)), hcs6.blk hP5 (H9.out _ (by omega)), hcs6.blk hR5 (H9.out _ (by omega)), hcs6.rd hrd5 (fun a h => H9.out _ (by have := (hf5 a h).1; omega)) (fun a h => (hf5 a h).2), fun a h => by have := hf5 a h; have := hcs6.size; omega, by omega,
      hcs6.nine hE5.lt (H9.out _ (Nat.le_refl _)), hcs6.nine hR5.lt (H9.out _ (by omega)), hcs6.nine hP5.lt (H9.out _ (by omega)), fun a h => hcs6.nine (hf5 a h).2 (H9.out _ (by have := (hf5 a h).1; omega))⟩
  have HEA := Lib.hid EA
  have hR6 := EA.R
  have p0 : w6.cell? ⟨pb, 0, none⟩ = some (.slice A3 fs.length cp3) := EA.P.cell 0
  have hne := EA.pne
  have hzz := EA.E.lt
  clear HAP hcs6 hos6 hB6 hP5 hR5 hE5 hrd5 hf5 hB5 hlen EA HSD HWF HR0 HPL H9
  have hmid6 : w6.rangeAt w.heap.size 0 e.o.cells := fun j v hv => by
    rw [HEA.out.E.cell, Nat.zero_add]
    have hj : j < 7 := (List.getElem?_eq_some_iff.1 hv).1
    match j, hj, hv with
    | 0, _, hv | 1, _, hv | 2, _, hv | 3, _, hv | 4, _, hv | 5, _, hv | 6, _, hv => exact hv
  go_wp2_with (first | (((with_reducible show wpList _ _ _ (⟨_, .store _ _ _, _, _, _, _⟩ :: _) _ _); refine wpList_store_fld (by rfl) _ _ _ (by rfl) _ _ (by rfl) _ (by rfl) _ _ hR6 ?_ ?_ (by rfl) (by rfl) ?_; (next => first | omega | ((try simp) <;> omega)); (next => kernel_rfl); intro w7 hR7 hU7); replace hR7 : Blk w7 (w.heap.size + 1) 32 (resArr 0 (.slice A3 fs.length cp3) Are.ord0 0 0) := hR7; have hE7 : Blk w7 w.heap.size 37 e.arr := Blk.upd HEA.out.E (by omega) hU7; have hmid7 : w7.rangeAt w.heap.size 0 e.o.cells := fun j v hv => (World.cell?_of_block (hU7.block w.heap.size (by omega))).trans (hmid6 j v hv)) | (refine wpList_load_mid (by rfl) _ _ (by rfl) _ _ (by rfl) _ _ hmid7 Tryz.underlying30 rfl (by kernel_rfl) ?_) | ((with_reducible show wpList _ _ _ (⟨_, .store 30 _ _, _, _, _, _⟩ :: _) _ _); refine wpList_store_put (by rfl) _ _ _ (by rfl) _ _ _ (by rfl) (by rfl) _ _ hR7 ?_ ?_ ?_ ?_; (next => kernel_rfl); (next => exact (by decide : 2 + 7 ≤ 11)); (next => exact Are.ordArr_one e.o); intro w8 hR8 hU8) | fail)
  replace hR8 : Blk w8 (w.heap.size + 1) 32 (resArr 0 (.slice A3 fs.length cp3) e.o 0 0) := hR8
  have hE8 := hE7.upd (by omega) hU8
  have hP8 : Blk w8 pb 59 #[.slice A3 fs.length cp3, .int .i64 left, .int .i64 stop] := (HEA.out.P.upd hne hU7).upd hne hU8
  have HEB := Lib.hid ((HEA.out.toEb.upd hU7).upd hU8)
  clear hR6 p0 hmid6 hmid7 hR7 hE7 hU7 hU8 HEA
  refine wp_region_T (S := S9 w pb e A3 fs.length cp3 left stop) 10 (by kernel_rfl) ?_
  have hb89 : Below w8.heap.size w8 w8.drew := (Below.refl _ _).drew
  have hR9 : Blk w8.drew (w.heap.size + 1) 32 (resArr 0 (.slice A3 fs.length cp3) e.o 0 0) := hR8.drew
  have hS : S9 w pb e A3 fs.length cp3 left stop w8.drew := ⟨(hP8.drew).cell 1, hP8.drew, hE8.drew⟩
  generalize w8.drew = w9 at *
  (refine T_take (i := 2) rfl (by kernel_rfl) (fun _ _ _ _ h => h) hS ?_; apply Exists.intro; refine ⟨.inl ⟨by rfl, fun W hW => ?_⟩, ?_⟩; (next => (obtain ⟨hs1, hs2⟩ := hW; go_simp; first | done | rfl)); simp only [Act.put, List.setIfInBounds_toArray, List.set_cons_zero, List.set_cons_succ])
  (refine T_take (i := 3) rfl (by kernel_rfl) (fun _ _ _ _ h => h) hS ?_; apply Exists.intro; refine ⟨.inl ⟨by rfl, fun W hW => ?_⟩, ?_⟩; (next => (obtain ⟨hs1, hs2⟩ := hW; go_simp; first | done | rfl)); simp only [Act.put, List.setIfInBounds_toArray, List.set_cons_zero, List.set_cons_succ])
  (refine T_take (i := 0) rfl (by kernel_rfl) (fun _ _ _ _ h => h) hS ?_; refine ⟨_, y_load_blk 37 _ rfl (by rfl) w.heap.size (by rfl) 37 e.arr _ (fun W h => h.2.2) Tryz.underlying37 rfl (by kernel_rfl), ?_⟩; simp only [Act.put, List.setIfInBounds_toArray, List.set_cons_zero, List.set_cons_succ])
  refine T_all [1] (by kernel_rfl) (by decide) ?_
  intro j hj
  simp only [List.mem_cons, or_false, List.not_mem_nil] at hj
  subst hj
  refine T_op rfl (by rfl) ?_
  refine wp_enterE (ops := #[]) (F := 19) (args := #[.agg e.arr]) ?_ ?_
  (next => first | (go_simp; done) | (go_simp; rfl))
  refine (HY.out _).mono ?_
  rintro x w10 ⟨rfl, hb10⟩
  have hS10 : S9 w pb e A3 fs.length cp3 left stop w10 := ⟨(hS.2.1.ext hb10).cell 1, hS.2.1.ext hb10, hS.2.2.ext hb10⟩
  have hR10 := hR9.ext hb10
  refine ⟨_, rfl, .inr hS10, ?_⟩
  simp only [Act.put, List.setIfInBounds_toArray, List.set_cons_zero, List.set_cons_succ]
  clear hS
  have hS := hS10
  (refine T_take (i := 4) rfl (by kernel_rfl) (fun _ _ _ _ h => h) hS ?_; apply Exists.intro; refine ⟨.inl ⟨by rfl, fun W hW => ?_⟩, ?_⟩; (next => (obtain ⟨hs1, hs2⟩ := hW; go_simp; first | done | rfl)); simp only [Act.put, List.setIfInBounds_toArray, List.set_cons_zero, List.set_cons_succ])
  (refine T_take (i := 5) rfl (by kernel_rfl) (fun _ _ _ _ h => h) hS ?_; apply Exists.intro; refine ⟨.inl ⟨by rfl, fun W hW => ?_⟩, ?_⟩; (next => (obtain ⟨hs1, hs2⟩ := hW; go_simp; first | done | rfl)); simp only [Act.put, List.setIfInBounds_toArray, List.set_cons_zero, List.set_cons_succ])
  refine T_all [6] (by kernel_rfl) (by decide) ?_
  intro j hj
  simp only [List.mem_cons, or_false, List.not_mem_nil] at hj
  subst hj
  refine T_op rfl (by rfl) ?_
  refine wp_store_fld _ _ _ (by rfl) (w.heap.size + 1) 5 (by rfl) (.int .i64 (edgeF e)) (by rfl) _ _ hR10 (by simp) (by kernel_rfl) rfl rfl ?_
  intro w11 hR11 hU11
  replace hR11 : Blk w11 (w.heap.size + 1) 32 (resArr 0 (.slice A3 fs.length cp3) (restO e e.o.qty) 0 0) := hR11
  have hP11 := hS10.2.1.upd hne hU11
  have hE11 := hS10.2.2.upd (by omega) hU11
  clear hS
  have hS : S9 w pb e A3 fs.length cp3 left stop w11 := ⟨hP11.cell 1, hP11, hE11⟩
  refine ⟨.inr hS, ?_⟩
  simp only [Act.put]
  (refine T_take (i := 7) rfl (by kernel_rfl) (fun _ _ _ _ h => h) hS ?_; apply Exists.intro; refine ⟨.inl ⟨by rfl, fun W hW => ?_⟩, ?_⟩; (next => (obtain ⟨hs1, hs2⟩ := hW; go_simp; first | done | rfl)); simp only [Act.put, List.setIfInBounds_toArray, List.set_cons_zero, List.set_cons_succ])
  (refine T_take (i := 8) rfl (by kernel_rfl) (fun _ _ _ _ h => h) hS ?_; apply Exists.intro; refine ⟨.inl ⟨by rfl, fun W hW => ?_⟩, ?_⟩; (next => (obtain ⟨hs1, hs2⟩ := hW; go_simp; first | done | rfl)); simp only [Act.put, List.setIfInBounds_toArray, List.set_cons_zero, List.set_cons_succ])
  refine T_all [9] (by kernel_rfl) (by decide) ?_
  intro j hj
  simp only [List.mem_cons, or_false, List.not_mem_nil] at hj
  subst hj
  refine T_op rfl (by rfl) ?_
  refine wp_store_fld _ _ _ (by rfl) (w.heap.size + 1) 6 (by rfl) (.int .i64 left) (by rfl) _ _ hR11 (by simp) (by kernel_rfl) rfl rfl ?_
  intro w12 hR12 hU12
  replace hR12 : Blk w12 (w.heap.size + 1) 32 (resArr 0 (.slice A3 fs.length cp3) (restO e left) 0 0) := hR12
  have hP12 := hP11.upd hne hU12
  have hE12 := hE11.upd (by omega) hU12
  refine ⟨.inr ⟨hP12.cell 1, hP12, hE12⟩, ?_⟩
  simp only [Act.put]
  refine T_done (by kernel_rfl) ?_
  have HE12 := Lib.hid ((((HEB.out.ext hb89).ext hb10).upd hU11).upd hU12)
  have hmid : w12.rangeAt (w.heap.size + 1) 2 (restO e left).cells := fun j v hv => by
    rw [hR12.cell]
    have hj : j < 7 := (List.getElem?_eq_some_iff.1 hv).1
    match j, hj, hv with
    | 0, _, hv | 1, _, hv | 2, _, hv | 3, _, hv | 4, _, hv | 5, _, hv | 6, _, hv => exact hv
  have HAD := Lib.hid (Bk.add_any HE12.out.bs (restO e left) hid (by have := HK.out; omega))
  have HR12 := Lib.hid hR12
  have hl12 := hR12.lt
  clear HEB hb89 hb10 hU11 hU12 hP12 hE12 hP11 hE11 hR11 hS hS10 hR10 hR9 hR8 hE8 hP8 hR12
  go_wp2_with (first | (refine wpList_load_mid (by rfl) _ _ (by rfl) _ _ (by rfl) _ _ hmid Tryz.underlying30 rfl (by kernel_rfl) ?_) | fail)
  refine HAD.out.mono ?_
  rintro x w13 ⟨rfl, c13, ss13, B13, hos13, hs13⟩
  have hR13 := hs13.blk HR12.out HE12.out.nine.1
  have HE13 := Lib.hid (HE12.out.step B13 (hos13.trans (by rw [HE12.out.os])) hs13 hl12)
  clear HAD B13 hos13 hs13 HE12 HR12 hmid hl12
  go_wp2_with (first | ((with_reducible show wpList _ _ _ (⟨_, .load 32 _, _, _, _, _⟩ :: _) _ _); refine wpList_load_ho 32 _ (by rfl) (by rfl) ?_ (.pointer (some ⟨_, 0, none⟩)) (by rfl) ?_ _ Tryz.underlying32 rfl ?_ ?_; rotate_left; (next => (repeat (first | (with_reducible refine BlkAt.new _ _ _ _ ?_; ((try simp) <;> omega)) | (with_reducible assumption) | (with_reducible refine Blk.at (t := ?_) ?_; rotate_left; with_reducible assumption) | with_reducible refine BlkAt.alloc ?_ _ | with_reducible refine BlkAt.drew ?_ | (with_reducible refine BlkAt.setSame ?_ _ _) | (with_reducible refine BlkAt.setCell ?_ ?_ _; rotate_left; ((try simp) <;> omega)) | (with_reducible refine BlkAt.ext (w := ?_) ?_ ?_; rotate_left 2; (with_reducible assumption)) | fail))); (next => kernel_rfl)) | ((with_reducible show wpList _ _ _ (⟨_, .store 32 _ _, _, _, _, _⟩ :: _) _ _); refine wpList_store_blk (by rfl) 32 _ _ (by rfl) _ _ (by rfl) (by rfl) _ _ hR13 (by kernel_rfl) (by rfl) ?_ ?_; (next => exact res_one ..); intro w14 hR14 hU14) | fail)
  have EB := HE13.out.upd hU14
  exact bodyPost_ret (results_res rfl _ _ _ _ (by rfl) hR14 rfl) rfl ⟨A3, cp3, c13, ss13, rfl, EB.rd, fun a q => by have := EB.far a q; omega, EB.bs, EB.os, EB.cs⟩
theorem enter_any (S : Bs w c b N most k ss) (e : En) (hid : Idx.Wf e.o.id) (hp : I64 e.o.price) (hq : e.o.qty ≤ 9223372036854775807) (hk : k + (mkP (tkE e) (osOf ss)).1.length + 1 < 1000) :
    Calls Tryz.prog 6 #[.pointer (some ⟨b, 0, none⟩), .agg e.arr] w (EnPost w c b N most (k + (mkP (tkE e) (osOf ss)).1.length + 1) (enterF N most (osOf ss) e)) := by
  by_cases hc : checkF N most (osOf ss) e = 0
  · cases hr : restsF (osOf ss) e (mkP (tkE e) (osOf ss)) with
    | false => exact enter_gone S e hid hp hq hc hr hk
    | true => exact enter_rest S e hid hp hq hc hr hk
  · refine (enter_bad S e hid hp hq hc).mono ?_
    rintro x w' ⟨A, cap, c', ss', h1, h2, h3, h4, h5, h6⟩
    refine ⟨A, cap, c', ss', h1, h2, h3, ?_, h5, h6⟩
    have := Sw.Bs.monoK ((mkP (tkE e) (osOf ss)).1.length + 1) h4 (by omega)
    rwa [← Nat.add_assoc] at this
end
end Ma
end Go.Proofs.YtbnappiaomiciaaGreat
namespace Go.Proofs.YtbnappiaomiciaaGreat
set_option linter.unusedVariables false
open Go.RowKit
namespace Ma
set_option maxHeartbeats 4000000
set_option maxRecDepth 10000
open Bk (bet Bs osOf srt Sl)
open Sw (Fl mkP)
theorem built_en (o : Ord) (t lo hi s : Int) : Tryz.prog.built 37 [(0, .agg o.arr), (1, .int .i64 t), (2, .agg #[.int .i64 lo, .int .i64 hi]), (3, .int .i64 s)] = some (En.mk o t lo hi s).arr := by kernel_rfl
theorem results_en {fn : Func} {p : Tmp} (h : fn.results = #[.cell p 37]) (tmps : Array Value) (w : World) (g : Nat) (cs : Array Value) (hp : tmps.getD p undef = .pointer (some ⟨g, 0, none⟩)) (hb : Blk w g 37 cs) (h3 : cs.size = 11) :
    (results fn tmps).run Tryz.prog w = .ok (.agg cs) w :=
  results_cell_row h _ _ _ _ _ _ _ hp hb Tryz.underlying37 rfl (by rw [h3]; kernel_rfl)
theorem en_one (e : En) : e.arr.all (·.oneCell') = true := by simp [En.arr, En.cells, Ord.cells, Value.oneCell']
theorem en_rng {w : World} {g : Nat} {t : TypeId} {e : En} (h : Blk w g t e.arr) : w.rangeAt g 0 e.o.cells ∧ w.rangeAt g 8 [.int .i64 e.lo, .int .i64 e.hi] := by
  refine ⟨fun j v hv => ?_, fun j v hv => ?_⟩
  · rw [h.cell, Nat.zero_add]
    have hj : j < 7 := (List.getElem?_eq_some_iff.1 hv).1
    match j, hj, hv with
    | 0, _, hv | 1, _, hv | 2, _, hv | 3, _, hv | 4, _, hv | 5, _, hv | 6, _, hv => exact hv
  · rw [h.cell]
    match j, hv with
    | 0, hv => exact hv
    | 1, hv => exact hv
    | n + 2, hv => simp at hv
theorem own_any (e : En) (w : World) : Calls Tryz.prog 9 #[.agg e.arr] w fun x w' => x = .returned (.agg e.arr) ∧ Below w.heap.size w w' := by
  obtain ⟨w0, hw0⟩ : ∃ w0, w0 = (w.alloc (.cells e.arr 43)).alloc (.cells (En.mk Are.ord0 0 0 0 0).arr 37) := ⟨_, rfl⟩
  have hE0 : Blk w0 w.heap.size 43 e.arr := by rw [hw0]; exact (Blk.new w _ _ _ rfl).alloc _
  have hR0 : Blk w0 (w.heap.size + 1) 37 (En.mk Are.ord0 0 0 0 0).arr := by rw [hw0]; exact Blk.new _ _ _ _ (sz_alloc _ _)
  have hb0 : Below w.heap.size w w0 := by rw [hw0]; (repeat (first | with_reducible exact Below.refl _ _ | (with_reducible assumption) | (with_reducible refine below_alloc ?_ _) | (with_reducible refine below_ext (w1 := ?_) ?_ ?_; rotate_left 2; (with_reducible assumption)) | (with_reducible refine Below.setCell ?_ ?_ _; rotate_left; ((try simp) <;> omega)) | (with_reducible refine Below.drew ?_) | (with_reducible refine below_drewN ?_ _) | fail))
  obtain ⟨hm1, hm2⟩ := en_rng hE0
  rw [hw0] at hE0 hR0 hb0 hm1 hm2
  clear hw0
  go_enter Tryz.func9, Tryz.ntmps9
  go_wp2_with (first | (refine wpList_load_mid (by rfl) _ _ (by rfl) _ _ (by rfl) _ _ hm1 Tryz.underlying30 rfl (by kernel_rfl) ?_) | (refine wpList_load_mid (by rfl) _ _ (by rfl) _ _ (by rfl) _ _ hm2 Tryz.underlying35 rfl (by kernel_rfl) ?_) | ((with_reducible show wpList _ _ _ (⟨_, .build _ _, _, _, _, _⟩ :: _) _ _); refine wpList_build_is (by rfl) _ _ (by rfl) ?_ ?_ ?_; rotate_left; (next => simp only [List.map_toArray, List.map_cons, List.map_nil, go_sem]; exact built_en ..)) | ((with_reducible show wpList _ _ _ (⟨_, .store 37 _ _, _, _, _, _⟩ :: _) _ _); refine wpList_store_blk (by rfl) 37 _ _ (by rfl) _ _ (by rfl) (by rfl) _ _ hR0 (by kernel_rfl) (by rfl) ?_ ?_; (next => exact en_one ..); intro w3 hR3 hU3) | fail)
  exact bodyPost_ret (results_en rfl _ _ _ _ (by rfl) hR3 rfl) rfl ⟨rfl, below_upd hb0 (by omega) hU3⟩
def e1 : En := ⟨⟨1, 0, 1, 10, 5, 0, 0⟩, 1, 1, 100, 0⟩
def e2 : En := ⟨⟨2, 0, 0, 10, 8, 0, 0⟩, 1, 1, 100, 0⟩
theorem al1 : enterF 5 5 [] e1 = (⟨0, [], ⟨1, 0, 1, 10, 5, 0, 0⟩, 0, 0⟩, [⟨1, 0, 1, 10, 5, 0, 0⟩]) := by rfl
theorem al2 : enterF 5 5 [⟨1, 0, 1, 10, 5, 0, 0⟩] e2 = (⟨0, [⟨1, 10, 5, false⟩], ⟨2, 0, 0, 10, 3, 0, 0⟩, 0, 0⟩, [⟨2, 0, 0, 10, 3, 0, 0⟩]) := by rfl
theorem al_len1 : (mkP (tkE e1) []).1.length = 0 := by rfl
theorem al_len2 : (mkP (tkE e2) [⟨1, 0, 1, 10, 5, 0, 0⟩]).1.length = 1 := by rfl
theorem alive_any (w : World) : Calls Tryz.prog 4 #[] w fun x w' => x = .returned (.bool true) ∧ Below w.heap.size w w' := by
  have HN := Lib.hid (Bk.new_ok 5 5 w (by omega) (by omega))
  go_enter Tryz.func4, Tryz.ntmps4
  go_wp2_with fail
  refine HN.out.mono ?_
  rintro x w1 ⟨b, c, rfl, B1, hb1, h9⟩
  have HB1 := Lib.hid B1
  have H9 := Lib.hid h9
  clear B1 h9 HN
  go_wp2_with fail
  have hN2 : Blk (w1.alloc (.cells #[.int .i64 1, .int .i64 100] 35)) w1.heap.size 35 #[.int .i64 1, .int .i64 100] := Blk.new _ _ _ _ rfl
  have hbn : Below w1.heap.size w1 (w1.alloc (.cells #[.int .i64 1, .int .i64 100] 35)) := by (repeat (first | with_reducible exact Below.refl _ _ | (with_reducible assumption) | (with_reducible refine below_alloc ?_ _) | (with_reducible refine below_ext (w1 := ?_) ?_ ?_; rotate_left 2; (with_reducible assumption)) | (with_reducible refine Below.setCell ?_ ?_ _; rotate_left; ((try simp) <;> omega)) | (with_reducible refine Below.drew ?_) | (with_reducible refine below_drewN ?_ _) | fail))
  have h9b : c w1.heap.size = 9 := Bk.Bs.out14 HB1.out (Nat.le_refl _)
  refine (enter_any (HB1.out.ext hbn) e1 (by rfl) ⟨by decide, by decide⟩ (by decide) (by rw [show osOf ([] : List Sl) = [] from rfl, al_len1]; decide)).mono ?_
  rw [show osOf ([] : List Sl) = [] from rfl, al1, al_len1]
  rintro x w3 ⟨A3, cp3, c3, ss3, rfl, _, _, B3, hos3, hs3⟩
  have hN3 := hs3.blk hN2 h9b
  have h93 := hs3.nine hN2.lt h9b
  have hB3 : Below w.heap.size w w3 := (below_ext hb1 hbn).trans (hs3.below (below_ext hb1 hbn).size H9.out)
  have H93 := Lib.hid (fun q (hq : q < w.heap.size) => (hs3.old q (by have := (below_ext hb1 hbn).size; omega)).trans (H9.out q hq))
  have hX3 : Blk (w3.alloc (.cells (resArr 0 (.slice none 0 0) Are.ord0 0 0) 32)) w3.heap.size 32 (resArr 0 (.slice none 0 0) Are.ord0 0 0) := Blk.new _ _ _ _ rfl
  have HB3 := Lib.hid B3
  have HOS3 := Lib.hid hos3
  clear B3 hos3 hs3 hN2 hbn h9b hb1 HB1 H9
  have n0 : w3.cell? ⟨w1.heap.size, 0, none⟩ = some (.int .i64 1) := hN3.cell 0
  have n1 : w3.cell? ⟨w1.heap.size, 1, none⟩ = some (.int .i64 100) := hN3.cell 1
  go_wp2_with (first | (((with_reducible show wpList _ _ _ (⟨_, .store 32 _ _, _, _, _, _⟩ :: _) _ _); refine wpList_store_blk (by rfl) 32 _ _ (by rfl) _ _ (by rfl) (by rfl) _ _ hX3 (by kernel_rfl) (by rfl) ?_ ?_; (next => exact res_one ..); intro w4 hX4 hU4); have hb4 : Below w3.heap.size w3 w4 := below_upd (by (repeat (first | with_reducible exact Below.refl _ _ | (with_reducible assumption) | (with_reducible refine below_alloc ?_ _) | (with_reducible refine below_ext (w1 := ?_) ?_ ?_; rotate_left 2; (with_reducible assumption)) | (with_reducible refine Below.setCell ?_ ?_ _; rotate_left; ((try simp) <;> omega)) | (with_reducible refine Below.drew ?_) | (with_reducible refine below_drewN ?_ _) | fail))) (Nat.le_refl _) hU4; have hN4 := Blk.ext hN3 hb4) | ((with_reducible show wpList _ _ _ (⟨_, .load 35 _, _, _, _, _⟩ :: _) _ _); refine wpList_load_ho 35 _ (by rfl) (by rfl) ?_ (.pointer (some ⟨_, 0, none⟩)) (by rfl) ?_ _ Tryz.underlying35 rfl ?_ ?_; rotate_left; (next => (repeat (first | (with_reducible refine BlkAt.new _ _ _ _ ?_; ((try simp) <;> omega)) | (with_reducible assumption) | (with_reducible refine Blk.at (t := ?_) ?_; rotate_left; with_reducible assumption) | with_reducible refine BlkAt.alloc ?_ _ | with_reducible refine BlkAt.drew ?_ | (with_reducible refine BlkAt.setSame ?_ _ _) | (with_reducible refine BlkAt.setCell ?_ ?_ _; rotate_left; ((try simp) <;> omega)) | (with_reducible refine BlkAt.ext (w := ?_) ?_ ?_; rotate_left 2; (with_reducible assumption)) | fail))); (next => kernel_rfl)) | fail)
  have hX4' : Blk w4 w3.heap.size 32 (resArr 0 (.slice A3 0 cp3) ⟨1, 0, 1, 10, 5, 0, 0⟩ 0 0) := hX4
  have h94 : c3 w3.heap.size = 9 := Bk.Bs.out14 HB3.out (Nat.le_refl _)
  refine (enter_any (HB3.out.ext hb4) e2 (by rfl) ⟨by decide, by decide⟩ (by decide) (by rw [HOS3.out, al_len2]; decide)).mono ?_
  rw [HOS3.out, al2, al_len2]
  rintro x w5 ⟨A5, cp5, c5, ss5, rfl, hrd5, _, B5, hos5, hs5⟩
  have hX5 := hs5.blk hX4' h94
  have hB4 := below_ext hB3 hb4
  have hB5 : Below w.heap.size w w5 := hB4.trans (hs5.below hB4.size H93.out)
  have hY5 : Blk (w5.alloc (.cells (resArr 0 (.slice none 0 0) Are.ord0 0 0) 32)) w5.heap.size 32 (resArr 0 (.slice none 0 0) Are.ord0 0 0) := Blk.new _ _ _ _ rfl
  obtain ⟨ab, ao, rfl, hmid⟩ := Bk.rd_rngB (c := Fl.cells) (xs := [⟨1, 10, 5, false⟩]) hrd5 (i := 0) (by decide)
  clear B5 hos5 hs5 hX4 hX4' h94 hb4 HB3 HOS3 H93 hN4 hN3 n0 n1 hU4 h93 hX3 hrd5
  have l5 := hX5.lt
  go_wp2_with (first | (((with_reducible show wpList _ _ _ (⟨_, .store 32 _ _, _, _, _, _⟩ :: _) _ _); refine wpList_store_blk (by rfl) 32 _ _ (by rfl) _ _ (by rfl) (by rfl) _ _ hY5 (by kernel_rfl) (by rfl) ?_ ?_; (next => exact res_one ..); intro w6 hY6 hU6); have hb6 : Below w5.heap.size w5 w6 := below_upd (by (repeat (first | with_reducible exact Below.refl _ _ | (with_reducible assumption) | (with_reducible refine below_alloc ?_ _) | (with_reducible refine below_ext (w1 := ?_) ?_ ?_; rotate_left 2; (with_reducible assumption)) | (with_reducible refine Below.setCell ?_ ?_ _; rotate_left; ((try simp) <;> omega)) | (with_reducible refine Below.drew ?_) | (with_reducible refine below_drewN ?_ _) | fail))) (Nat.le_refl _) hU6; have hX6 := hX5.ext hb6; have x0 : w6.cell? ⟨w3.heap.size, 0, none⟩ = some (.int .i64 0) := hX6.cell 0; have x6 : w6.cell? ⟨w3.heap.size, 6, none⟩ = some (.int .i64 5) := hX6.cell 6; have y0 : w6.cell? ⟨w5.heap.size, 0, none⟩ = some (.int .i64 0) := Blk.cell hY6 0; have y1 : w6.cell? ⟨w5.heap.size, 1, none⟩ = some (.slice (some ⟨ab, ao, none⟩) 1 cp5) := Blk.cell hY6 1; have y5 : w6.cell? ⟨w5.heap.size, 5, none⟩ = some (.int .i64 10) := Blk.cell hY6 5; have y6 : w6.cell? ⟨w5.heap.size, 6, none⟩ = some (.int .i64 3) := Blk.cell hY6 6; have q2 : w6.cell? ⟨ab, ao + 2, none⟩ = some (.int .i64 5) := rangeAt_below hmid hb6 2 _ rfl) | fail)
  go_ret
  exact ⟨rfl, below_ext hB5 hb6⟩
end Ma
end Go.Proofs.YtbnappiaomiciaaGreat
