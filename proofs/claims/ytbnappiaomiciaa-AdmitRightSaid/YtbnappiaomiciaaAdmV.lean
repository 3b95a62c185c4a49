/- This text proves what is wrong first with an order's price, quantity and worth: contracts of admit.price, admit.values and its questions, and of damperref25.values. It has no conditions but those that it states. -/
import Derived.Test.YtbnappiaomiciaaRight
import Derived.Test.YtbnappiaomiciaaShort
namespace Go.Proofs.Ytbnappiaomiciaa
set_option linter.unusedVariables false
open Go.RowKit
namespace Adm
set_option maxHeartbeats 1000000
set_option maxRecDepth 10000
def priceG (p g : Int) : Int := if g < 1 then 1 else if p < 1 ∨ 1099511627776 < p then 9 else if p % g = 0 then 0 else 8
def qtyF (q : Int) : Int := if inF q 1 4294967296 = true then 0 else 9
theorem down_eq {p g : Int} (hp : 0 ≤ p) (hg : 1 ≤ g) : Fix.downF p g = p / g * g := by unfold Fix.downF; rw [if_neg (by omega)]
theorem fprice_any (p g : Int) (hp : I64 p) (hg : I64 g) (w : World) : Calls Try.prog 16 #[.int .i64 p, .int .i64 g] w fun e w' => e = .returned (.int .i64 (priceG p g)) ∧ w = w' := by
  have kp := hp
  have kg := hg
  obtain ⟨p1, p2⟩ := hp
  obtain ⟨g1, g2⟩ := hg
  by_cases h1 : g < 1
  · have HF : Hid (priceG p g = 1) := Lib.hid (by unfold priceG; rw [if_pos h1])
    go_enter Try.func16, Try.ntmps16
    go_wp2_with fail
    go_ret
    exact ⟨by rw [HF.out]; rfl, rfl⟩
  by_cases h2 : p < 1
  · have HF : Hid (priceG p g = 9) := Lib.hid (by unfold priceG; rw [if_neg h1, if_pos (.inl h2)])
    go_enter Try.func16, Try.ntmps16
    go_wp2_with fail
    go_ret
    exact ⟨by rw [HF.out]; rfl, rfl⟩
  by_cases h3 : 1099511627776 < p
  · have HF : Hid (priceG p g = 9) := Lib.hid (by unfold priceG; rw [if_neg h1, if_pos (.inr h3)])
    go_enter Try.func16, Try.ntmps16
    go_wp2_with fail
    go_ret
    exact ⟨by rw [HF.out]; rfl, rfl⟩
  have hm := Int.emod_add_mul_ediv p g
  rw [Int.mul_comm] at hm
  have HD := Lib.hid (down_eq (p := p) (g := g) (by omega) (by omega))
  by_cases h4 : p % g = 0
  · have HF : Hid (priceG p g = 0) := Lib.hid (by unfold priceG; rw [if_neg h1, if_neg (by omega), if_pos h4])
    have hq : p / g * g = p := by omega
    rw [hq] at HD
    clear hm h4 hq
    go_enter Try.func16, Try.ntmps16
    go_wp2_with (first | (go_at_call 47; refine (Fix.down_any _ _ _ kp kg).mono ?_; rintro e w' ⟨rfl, rfl⟩; rw [HD.out]) | fail)
    go_ret
    exact ⟨by rw [HF.out]; rfl, rfl⟩
  · have HF : Hid (priceG p g = 8) := Lib.hid (by unfold priceG; rw [if_neg h1, if_neg (by omega), if_neg h4])
    have hq : (p / g * g == p) = false := by rw [beq_eq_false_iff_ne]; omega
    generalize p / g * g = d at *
    clear hm h4
    go_enter Try.func16, Try.ntmps16
    go_wp2_with (first | (go_at_call 47; refine (Fix.down_any _ _ _ kp kg).mono ?_; rintro e w' ⟨rfl, rfl⟩; rw [HD.out]) | fail)
    go_ret
    exact ⟨by rw [HF.out]; rfl, rfl⟩
theorem fqty_any (q : Int) (w : World) : Calls Try.prog 52 #[.int .i64 q] w (FPost (qtyF q) w) := by
  have hmf : ∀ (fn : Fn) (first cap : Array Value) (W : World), (Instr.makeFunc fn first cap).run Try.prog W = .ok (.func fn first cap) W := fun _ _ _ _ => rfl
  go_enter Try.func52, Try.ntmps52
  go_wp2_with go_in
  all_goals go_ret
  all_goals refine ⟨ret_int ?_, by (repeat (first | with_reducible exact Below.refl _ _ | (with_reducible assumption) | (with_reducible refine below_alloc ?_ _) | (with_reducible refine below_ext (w1 := ?_) ?_ ?_; rotate_left 2; (with_reducible assumption)) | (with_reducible refine Below.setCell ?_ ?_ _; rotate_left; ((try simp) <;> omega)) | (with_reducible refine Below.drew ?_) | (with_reducible refine below_drewN ?_ _) | fail))⟩
  all_goals (simp_all [qtyF, inF] <;> omega)
def notF (p q : Int) : Bool := decide (0 ≤ p) && (decide (0 ≤ q) && (Mul.mulF (p.toNat * q.toNat)).2)
def NotPost (p q : Int) (w : World) (e : Ending) (w' : World) : Prop := ∃ n : Int, e = .returned (.tuple #[.int .i64 n, .bool (notF p q)]) ∧ Below w.heap.size w w'
theorem not_any (p q : Int) (hp : I64 p) (hq : I64 q) (w : World) : Calls Try.prog 54 #[.int .i64 p, .int .i64 q] w (NotPost p q w) := by
  obtain ⟨p1, p2⟩ := hp
  obtain ⟨q1, q2⟩ := hq
  by_cases h1 : p < 0
  · have HF : Hid (notF p q = false) := Lib.hid (by unfold notF; rw [decide_eq_false (show ¬ 0 ≤ p by omega), Bool.false_and])
    go_enter Try.func54, Try.ntmps54
    go_wp2_with fail
    go_ret2
    exact ⟨0, by rw [HF.out]; rfl, Below.refl _ _⟩
  by_cases h2 : q < 0
  · have HF : Hid (notF p q = false) := Lib.hid (by unfold notF; rw [decide_eq_false (show ¬ 0 ≤ q by omega), Bool.false_and, Bool.and_false])
    go_enter Try.func54, Try.ntmps54
    go_wp2_with fail
    go_ret2
    exact ⟨0, by rw [HF.out]; rfl, Below.refl _ _⟩
  have HF : Hid (notF p q = (Mul.mulF (p.toNat * q.toNat)).2) := Lib.hid (by unfold notF; rw [decide_eq_true (show 0 ≤ p by omega), decide_eq_true (show 0 ≤ q by omega), Bool.true_and, Bool.true_and])
  obtain ⟨a, rfl⟩ : ∃ a : Nat, p = a := ⟨p.toNat, by omega⟩
  obtain ⟨b, rfl⟩ : ∃ b : Nat, q = b := ⟨q.toNat, by omega⟩
  simp only [Int.toNat_natCast] at HF
  refine (Mul.notional_any a b (by omega) (by omega) w).mono ?_
  rintro e w' ⟨he, hb⟩
  exact ⟨_, by rw [he, HF.out], hb⟩
/-! ### the questions -/
def priceM (p g : Int) (m : Bool) : Int := if m = true then unlF (p == 0) 9 else priceG p g
def vf (p q g : Int) (may m : Bool) : Nat → Int
  | 0 => priceM p g m
  | 1 => qtyF q
  | 2 => unlF (notF p q) 2
  | _ => unlF may 14
def valF (p q g : Int) (may m : Bool) : Int := firstF (vf p q g may m) 0 4
theorem price_any (y : Sym) (o : Ord) (m : Bool) (hp : I64 o.price) (hg : I64 y.grid) (w : World) : Calls Try.prog 50 #[.agg y.arr, .agg o.arr, .bool m] w (FPost (priceM o.price y.grid m) w) := by
  cases m
  · go_enter Try.func50, Try.ntmps50
    go_wp2_with (first | (go_at_call 16; refine (fprice_any _ _ hp hg _).mono ?_; rintro e w' ⟨rfl, rfl⟩) | fail)
    go_ret
    exact ⟨rfl, by (repeat (first | with_reducible exact Below.refl _ _ | (with_reducible assumption) | (with_reducible refine below_alloc ?_ _) | (with_reducible refine below_ext (w1 := ?_) ?_ ?_; rotate_left 2; (with_reducible assumption)) | (with_reducible refine Below.setCell ?_ ?_ _; rotate_left; ((try simp) <;> omega)) | (with_reducible refine Below.drew ?_) | (with_reducible refine below_drewN ?_ _) | fail))⟩
  · go_enter Try.func50, Try.ntmps50
    go_wp2_with (first | (go_at_call 27; refine (unless_any _ _ _).mono ?_; rintro e w' ⟨rfl, rfl⟩) | fail)
    go_ret
    exact ⟨rfl, by (repeat (first | with_reducible exact Below.refl _ _ | (with_reducible assumption) | (with_reducible refine below_alloc ?_ _) | (with_reducible refine below_ext (w1 := ?_) ?_ ?_; rotate_left 2; (with_reducible assumption)) | (with_reducible refine Below.setCell ?_ ?_ _; rotate_left; ((try simp) <;> omega)) | (with_reducible refine Below.drew ?_) | (with_reducible refine below_drewN ?_ _) | fail))⟩
section
variable {w : World} {y : Sym} {o : Ord} {b m : Bool} {s : Int} {bs bo bm bt : Nat}
theorem v1_any (hS : Blk w bs 23 y.arr) (hO : Blk w bo 35 o.arr) (hM : w.cell? ⟨bm, 0, none⟩ = some (.bool m)) (hp : I64 o.price) (hg : I64 y.grid) :
    Calls Try.prog 49 #[.pointer (some ⟨bs, 0, none⟩), .pointer (some ⟨bo, 0, none⟩), .pointer (some ⟨bm, 0, none⟩)] w (FPost (priceM o.price y.grid m) w) := by
  have hK := Lib.hid (fun W => price_any y o m hp hg W)
  go_enter Try.func49, Try.ntmps49
  go_wp2_with (first | ((with_reducible show wpList _ _ _ (⟨_, .load 23 _, _, _, _, _⟩ :: _) _ _); refine wpList_load_ho 23 _ (by rfl) (by rfl) ?_ (.pointer (some ⟨_, 0, none⟩)) (by rfl) ?_ _ Try.underlying23 rfl ?_ ?_; rotate_left; (next => (repeat (first | (with_reducible refine BlkAt.new _ _ _ _ ?_; ((try simp) <;> omega)) | (with_reducible assumption) | (with_reducible refine Blk.at (t := ?_) ?_; rotate_left; with_reducible assumption) | with_reducible refine BlkAt.alloc ?_ _ | with_reducible refine BlkAt.drew ?_ | (with_reducible refine BlkAt.setSame ?_ _ _) | (with_reducible refine BlkAt.setCell ?_ ?_ _; rotate_left; ((try simp) <;> omega)) | (with_reducible refine BlkAt.ext (w := ?_) ?_ ?_; rotate_left 2; (with_reducible assumption)) | fail))); (next => kernel_rfl)) | ((with_reducible show wpList _ _ _ (⟨_, .load 35 _, _, _, _, _⟩ :: _) _ _); refine wpList_load_ho 35 _ (by rfl) (by rfl) ?_ (.pointer (some ⟨_, 0, none⟩)) (by rfl) ?_ _ Try.underlying35 rfl ?_ ?_; rotate_left; (next => (repeat (first | (with_reducible refine BlkAt.new _ _ _ _ ?_; ((try simp) <;> omega)) | (with_reducible assumption) | (with_reducible refine Blk.at (t := ?_) ?_; rotate_left; with_reducible assumption) | with_reducible refine BlkAt.alloc ?_ _ | with_reducible refine BlkAt.drew ?_ | (with_reducible refine BlkAt.setSame ?_ _ _) | (with_reducible refine BlkAt.setCell ?_ ?_ _; rotate_left; ((try simp) <;> omega)) | (with_reducible refine BlkAt.ext (w := ?_) ?_ ?_; rotate_left 2; (with_reducible assumption)) | fail))); (next => kernel_rfl)) | (go_at_call 50; refine (hK.out _).mono ?_; rintro e w' ⟨rfl, hb1⟩) | fail)
  go_ret
  exact ⟨rfl, hb1⟩
theorem v2_any (hO : Blk w bo 35 o.arr) : Calls Try.prog 51 #[.pointer (some ⟨bo, 0, none⟩)] w (FPost (qtyF o.qty) w) := by
  have hc : w.cell? ⟨bo, 4, none⟩ = some (.int .i64 o.qty) := hO.cell 4
  go_enter Try.func51, Try.ntmps51
  go_wp2_with (first | (go_at_call 52; refine (fqty_any _ _).mono ?_; rintro e w' ⟨rfl, hb1⟩) | fail)
  go_ret
  exact ⟨rfl, hb1⟩
theorem v3_any (hO : Blk w bo 35 o.arr) (hp : I64 o.price) (hq : I64 o.qty) : Calls Try.prog 53 #[.pointer (some ⟨bo, 0, none⟩)] w (FPost (unlF (notF o.price o.qty) 2) w) := by
  have hc : w.cell? ⟨bo, 3, none⟩ = some (.int .i64 o.price) := hO.cell 3
  have hd : w.cell? ⟨bo, 4, none⟩ = some (.int .i64 o.qty) := hO.cell 4
  go_enter Try.func53, Try.ntmps53
  go_wp2_with (first | (go_at_call 54; refine (not_any _ _ hp hq _).mono ?_; rintro e w' ⟨n, rfl, hb1⟩) | (go_at_call 27; refine (unless_any _ _ _).mono ?_; rintro e w' ⟨rfl, rfl⟩) | fail)
  go_ret
  exact ⟨rfl, hb1⟩
theorem v4_any (hT : Blk w bt 32 #[.bool b, .int .i64 s]) (hO : Blk w bo 35 o.arr) : Calls Try.prog 55 #[.pointer (some ⟨bt, 0, none⟩), .pointer (some ⟨bo, 0, none⟩)] w (FPost (unlF (Sho.mayF b s o) 14) w) := by
  go_enter Try.func55, Try.ntmps55
  go_wp2_with (first | ((with_reducible show wpList _ _ _ (⟨_, .load 32 _, _, _, _, _⟩ :: _) _ _); refine wpList_load_ho 32 _ (by rfl) (by rfl) ?_ (.pointer (some ⟨_, 0, none⟩)) (by rfl) ?_ _ Try.underlying32 rfl ?_ ?_; rotate_left; (next => (repeat (first | (with_reducible refine BlkAt.new _ _ _ _ ?_; ((try simp) <;> omega)) | (with_reducible assumption) | (with_reducible refine Blk.at (t := ?_) ?_; rotate_left; with_reducible assumption) | with_reducible refine BlkAt.alloc ?_ _ | with_reducible refine BlkAt.drew ?_ | (with_reducible refine BlkAt.setSame ?_ _ _) | (with_reducible refine BlkAt.setCell ?_ ?_ _; rotate_left; ((try simp) <;> omega)) | (with_reducible refine BlkAt.ext (w := ?_) ?_ ?_; rotate_left 2; (with_reducible assumption)) | fail))); (next => kernel_rfl)) | ((with_reducible show wpList _ _ _ (⟨_, .load 35 _, _, _, _, _⟩ :: _) _ _); refine wpList_load_ho 35 _ (by rfl) (by rfl) ?_ (.pointer (some ⟨_, 0, none⟩)) (by rfl) ?_ _ Try.underlying35 rfl ?_ ?_; rotate_left; (next => (repeat (first | (with_reducible refine BlkAt.new _ _ _ _ ?_; ((try simp) <;> omega)) | (with_reducible assumption) | (with_reducible refine Blk.at (t := ?_) ?_; rotate_left; with_reducible assumption) | with_reducible refine BlkAt.alloc ?_ _ | with_reducible refine BlkAt.drew ?_ | (with_reducible refine BlkAt.setSame ?_ _ _) | (with_reducible refine BlkAt.setCell ?_ ?_ _; rotate_left; ((try simp) <;> omega)) | (with_reducible refine BlkAt.ext (w := ?_) ?_ ?_; rotate_left 2; (with_reducible assumption)) | fail))); (next => kernel_rfl)) | (go_at_call 9; refine (Sho.may_any _ _ _ _).mono ?_; rintro e w1 ⟨rfl, hb1⟩) | (go_at_call 27; refine (unless_any _ _ _).mono ?_; rintro e w' ⟨rfl, rfl⟩) | fail)
  go_ret
  exact ⟨rfl, hb1⟩
end
section
variable {w : World} {y : Sym} {o : Ord} {b m : Bool} {s : Int} {bs bo bm bt g : Nat} {tf : TypeId}
def vK : Nat → Nat
  | 0 => 49
  | 1 => 51
  | 2 => 53
  | _ => 55
def vC (bs bo bm bt : Nat) : Nat → Array Value
  | 0 => #[.pointer (some ⟨bs, 0, none⟩), .pointer (some ⟨bo, 0, none⟩), .pointer (some ⟨bm, 0, none⟩)]
  | 1 => #[.pointer (some ⟨bo, 0, none⟩)]
  | 2 => #[.pointer (some ⟨bo, 0, none⟩)]
  | _ => #[.pointer (some ⟨bt, 0, none⟩), .pointer (some ⟨bo, 0, none⟩)]
theorem vQ : ∀ k, k < 4 → ∀ args W, (callFunc (vK k) args).run Try.prog W = .ok (.enter (vK k) args) W
  | 0, _ => fun args W => callFunc_in (fn := Try.f49) (by kernel_rfl) (by kernel_rfl) rfl args W
  | 1, _ => fun args W => callFunc_in (fn := Try.f51) (by kernel_rfl) (by kernel_rfl) rfl args W
  | 2, _ => fun args W => callFunc_in (fn := Try.f53) (by kernel_rfl) (by kernel_rfl) rfl args W
  | 3, _ => fun args W => callFunc_in (fn := Try.f55) (by kernel_rfl) (by kernel_rfl) rfl args W
  | n + 4, h => absurd h (by omega)
theorem values_core (hS : Blk w bs 23 y.arr) (hT : Blk w bt 32 #[.bool b, .int .i64 s]) (hO : Blk w bo 35 o.arr) (hM : w.cell? ⟨bm, 0, none⟩ = some (.bool m))
    (hF : Blk w g tf #[.func (.func 49) #[] #[.pointer (some ⟨bs, 0, none⟩), .pointer (some ⟨bo, 0, none⟩), .pointer (some ⟨bm, 0, none⟩)], .func (.func 51) #[] #[.pointer (some ⟨bo, 0, none⟩)], .func (.func 53) #[] #[.pointer (some ⟨bo, 0, none⟩)], .func (.func 55) #[] #[.pointer (some ⟨bt, 0, none⟩), .pointer (some ⟨bo, 0, none⟩)]])
    (hp : I64 o.price) (hq : I64 o.qty) (hg : I64 y.grid) :
    Calls Try.prog 25 #[.slice (some ⟨g, 0, none⟩) 4 4] w (FPost (valF o.price o.qty y.grid (Sho.mayF b s o) m) w) := by
  refine first_any 4 g vK (vC bs bo bm bt) (vf o.price o.qty y.grid (Sho.mayF b s o) m) (by decide) ?_ vQ ?_
  · intro k hk
    rw [hF.cell]
    match k, hk with
    | 0, _ => rfl
    | 1, _ => rfl
    | 2, _ => rfl
    | 3, _ => rfl
  · intro k hk _ W hW
    match k, hk with
    | 0, _ => exact v1_any (hS.ext hW) (hO.ext hW) ((hW.cell (p := ⟨bm, 0, none⟩) (cell_lt hM)).trans hM) hp hg
    | 1, _ => exact v2_any (hO.ext hW)
    | 2, _ => exact v3_any (hO.ext hW) hp hq
    | 3, _ => exact v4_any (hT.ext hW) (hO.ext hW)
end
theorem values_any (y : Sym) (b : Bool) (s : Int) (o : Ord) (m : Bool) (hp : I64 o.price) (hq : I64 o.qty) (hg : I64 y.grid) (w : World) :
    Calls Try.prog 31 #[.agg y.arr, .agg #[.bool b, .int .i64 s], .agg o.arr, .bool m] w (FPost (valF o.price o.qty y.grid (Sho.mayF b s o) m) w) := by
  have hmf : ∀ (fn : Fn) (first cap : Array Value) (W : World), (Instr.makeFunc fn first cap).run Try.prog W = .ok (.func fn first cap) W := fun _ _ _ _ => rfl
  go_enter Try.func31, Try.ntmps31
  go_wp2_with fail
  refine (values_core (y := y) (o := o) (b := b) (m := m) (s := s) (bs := w.heap.size) (bt := w.heap.size + 1) (bo := w.heap.size + 1 + 1) (bm := w.heap.size + 1 + 1 + 1) (tf := 99) ?_ ?_ ?_ ?_ ?_ hp hq hg).mono ?_
  · exact ((((Blk.new _ _ _ _ rfl).alloc _).alloc _).alloc _).alloc _
  · exact (((Blk.new _ _ _ _ (by simp only [sz_alloc])).alloc _).alloc _).alloc _
  · exact ((Blk.new _ _ _ _ (by simp only [sz_alloc])).alloc _).alloc _
  · exact (((Blk.new _ _ _ _ (by simp only [sz_alloc])).alloc _).cell 0)
  · exact Blk.new _ _ _ _ (by simp only [sz_alloc])
  rintro e w' ⟨rfl, hb1⟩
  go_wp2_with fail
  go_ret
  exact ⟨rfl, by (repeat (first | with_reducible exact Below.refl _ _ | (with_reducible assumption) | (with_reducible refine below_alloc ?_ _) | (with_reducible refine below_ext (w1 := ?_) ?_ ?_; rotate_left 2; (with_reducible assumption)) | (with_reducible refine Below.setCell ?_ ?_ _; rotate_left; ((try simp) <;> omega)) | (with_reducible refine Below.drew ?_) | (with_reducible refine below_drewN ?_ _) | fail))⟩
end Adm
end Go.Proofs.Ytbnappiaomiciaa
