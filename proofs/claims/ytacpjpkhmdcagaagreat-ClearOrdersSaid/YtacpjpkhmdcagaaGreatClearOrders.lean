/- This text proves ClearOrders: whatever the input, the law returns true. It has no conditions. -/
import Derived.Test.YtacpjpkhmdcagaaGreatClT
namespace Go.Proofs.YtacpjpkhmdcagaaGreat
set_option linter.unusedVariables false
open Go.RowKit
namespace Cl
set_option maxHeartbeats 4000000
set_option maxRecDepth 10000
open Cu (ic)
theorem orders_law (a b : Pr) (r : Int) (w : World) : Calls Tryz.prog 5 #[.agg a.arr, .agg b.arr, .int .i64 r] w fun e w' => e = .returned (.bool true) ∧ Below w.heap.size w w' := by
  have hA0 : Blk ((w.alloc (.cells a.arr 35)).alloc (.cells b.arr 35)) w.heap.size 35 a.arr := (Blk.new w _ _ _ rfl).alloc _
  have hB0 : Blk ((w.alloc (.cells a.arr 35)).alloc (.cells b.arr 35)) (w.heap.size + 1) 35 b.arr := Blk.new _ _ _ _ (sz_alloc _ _)
  have hb0 : Below w.heap.size w ((w.alloc (.cells a.arr 35)).alloc (.cells b.arr 35)) := by (repeat (first | with_reducible exact Below.refl _ _ | (with_reducible assumption) | (with_reducible refine below_alloc ?_ _) | (with_reducible refine below_ext (w1 := ?_) ?_ ?_; rotate_left 2; (with_reducible assumption)) | (with_reducible refine Below.setCell ?_ ?_ _; rotate_left; ((try simp) <;> omega)) | (with_reducible refine Below.drew ?_) | (with_reducible refine below_drewN ?_ _) | fail))
  generalize hw0 : (w.alloc (.cells a.arr 35)).alloc (.cells b.arr 35) = w0 at hA0 hB0 hb0
  have HW0 := Lib.hid hw0
  have a0 : w0.cell? ⟨w.heap.size, 0, none⟩ = some (.int .i64 a.price) := hA0.cell 0
  have b0 : w0.cell? ⟨w.heap.size + 1, 0, none⟩ = some (.int .i64 b.price) := hB0.cell 0
  have hX0 : Blk (w0.alloc (.cells #[.int .i64 a.price, .int .i64 b.price, .int .i64 r] 2)) w0.heap.size 2 #[.int .i64 a.price, .int .i64 b.price, .int .i64 r] := Blk.new _ _ _ _ rfl
  have hbX : Below w0.heap.size w0 (w0.alloc (.cells #[.int .i64 a.price, .int .i64 b.price, .int .i64 r] 2)) := by (repeat (first | with_reducible exact Below.refl _ _ | (with_reducible assumption) | (with_reducible refine below_alloc ?_ _) | (with_reducible refine below_ext (w1 := ?_) ?_ ?_; rotate_left 2; (with_reducible assumption)) | (with_reducible refine Below.setCell ?_ ?_ _; rotate_left; ((try simp) <;> omega)) | (with_reducible refine Below.drew ?_) | (with_reducible refine below_drewN ?_ _) | fail))
  have HP := Lib.hid (priced_any (l := [a.price, b.price, r]) (cap := 3) (rd_own hX0 (by simp [ic]) (n := 3) (by simp [ic])) (by simp))
  have HAL := Lib.hid (fun W => alive_any W)
  generalize decide (∀ x ∈ [a.price, b.price, r], 0 ≤ x ∧ x ≤ 1099511627776) = pz at HP
  clear hw0
  go_enter Tryz.func5, Tryz.ntmps5
  go_upto_region 1 with fail
  rw [HW0.out]
  go_wp2_with fail
  refine HP.out.mono ?_
  rintro e w2 ⟨rfl, rfl⟩
  have hA2 := hA0.ext hbX
  have hB2 := hB0.ext hbX
  have hb2 := below_ext hb0 hbX
  clear hA0 hB0 hb0 hX0 HP HW0 a0 b0
  generalize w0.alloc (.cells #[.int .i64 a.price, .int .i64 b.price, .int .i64 r] 2) = w3 at *
  cases pz with
  | false =>
    go_wp2_with fail
    refine (HAL.out _).mono ?_
    rintro e w4 ⟨rfl, hb4⟩
    go_wp2_with fail
    go_ret
    exact ⟨rfl, below_ext hb2 hb4⟩
  | true =>
    have HOA := Lib.hid (fun W => own_any a W)
    have HOB := Lib.hid (fun W => own_any b W)
    have HLA := Lib.hid (fun W => less_any a b r W)
    have HLB := Lib.hid (fun W => less_any b a r W)
    have HRA := Lib.hid (fun W => rless_any a b r W)
    have HRB := Lib.hid (fun W => rless_any b a r W)
    generalize lessI a b r = z1 at HLA HRA
    generalize lessI b a r = z2 at HLB HRB
    have lA := hA2.lt
    have lB := hB2.lt
    have q1 : (z1 == z1) = true := by simp
    have q2 : (z2 == z2) = true := by simp
    go_wp2_with fail
    refine wp_region_below_lit (by kernel_rfl) (by kernel_rfl) ?_
    repeat (first | go_big_quiet_skip | (go_big_quiet_want; go_big_quiet_op; go_big_quiet_on) | (refine q_load_blk (by rfl) 35 _ (by rfl) ?_ (.pointer (some ⟨_, 0, none⟩)) (by rfl) ?_ _ (fun _ h => h) Tryz.underlying35 rfl ?_ ?_; rotate_left; (next => (repeat (first | (with_reducible refine BlkAt.new _ _ _ _ ?_; ((try simp) <;> omega)) | (with_reducible assumption) | (with_reducible refine Blk.at (t := ?_) ?_; rotate_left; with_reducible assumption) | with_reducible refine BlkAt.alloc ?_ _ | with_reducible refine BlkAt.drew ?_ | (with_reducible refine BlkAt.setSame ?_ _ _) | (with_reducible refine BlkAt.setCell ?_ ?_ _; rotate_left; ((try simp) <;> omega)) | (with_reducible refine BlkAt.ext (w := ?_) ?_ ?_; rotate_left 2; (with_reducible assumption)) | fail))); (next => kernel_rfl); (try simp only [Act.put, List.setIfInBounds_toArray, List.set_cons_zero, List.set_cons_succ])) | (refine q_load_fld (by rfl) _ _ (by rfl) (fun _ h => h) _ _ (by rfl) ?_ ?_ ?_ ?_ ?_ ?_; rotate_left; (next => (repeat (first | (with_reducible refine BlkAt.new _ _ _ _ ?_; ((try simp) <;> omega)) | (with_reducible assumption) | (with_reducible refine Blk.at (t := ?_) ?_; rotate_left; with_reducible assumption) | with_reducible refine BlkAt.alloc ?_ _ | with_reducible refine BlkAt.drew ?_ | (with_reducible refine BlkAt.setSame ?_ _ _) | (with_reducible refine BlkAt.setCell ?_ ?_ _; rotate_left; ((try simp) <;> omega)) | (with_reducible refine BlkAt.ext (w := ?_) ?_ ?_; rotate_left 2; (with_reducible assumption)) | fail))); rotate_left; (next => first | (simp only [go_sem]; rfl) | rfl); (next => kernel_rfl); (try simp only [Act.put, List.setIfInBounds_toArray, List.set_cons_zero, List.set_cons_succ])) | (refine q_rem (by rfl) _ _ _ _ (by rfl) _ _ (by rfl) (by rfl) (by kernel_rfl) (by kernel_rfl) ?_ ?_; (next => omega); (try simp only [Act.put, List.setIfInBounds_toArray, List.set_cons_zero, List.set_cons_succ])) | (refine q_step_ex (by rfl) ?_; apply Exists.intro; refine ⟨fun W hW => ?_, ?_⟩; (next => (have hWc := fun (b o : Nat) (h : b < _) => (Ext.out hW).cell (p := ⟨b, o, none⟩) h); (try have hLK := HLK.out W (Ext.out hW)); go_simp; first | rfl | (go_at_call 12; (with_reducible refine (HOA.out _).mono ?_); rintro e w'' ⟨rfl, hb2⟩; exact ⟨rfl, below_ext hW hb2⟩) | (go_at_call 12; (with_reducible refine (HOB.out _).mono ?_); rintro e w'' ⟨rfl, hb2⟩; exact ⟨rfl, below_ext hW hb2⟩) | (go_at_call 15; (with_reducible refine (HLA.out _).mono ?_); rintro e w'' ⟨rfl, hb2⟩; exact ⟨rfl, below_ext hW hb2⟩) | (go_at_call 15; (with_reducible refine (HLB.out _).mono ?_); rintro e w'' ⟨rfl, hb2⟩; exact ⟨rfl, below_ext hW hb2⟩) | (go_at_call 16; (with_reducible refine (HRA.out _).mono ?_); rintro e w'' ⟨rfl, hb2⟩; exact ⟨rfl, below_ext hW hb2⟩) | (go_at_call 16; (with_reducible refine (HRB.out _).mono ?_); rintro e w'' ⟨rfl, hb2⟩; exact ⟨rfl, below_ext hW hb2⟩) | (go_at_call 8; refine (HAL.out _).mono ?_; rintro e w'' ⟨rfl, hb2⟩; exact ⟨rfl, below_ext hW hb2⟩) | fail); (try simp only [Act.put, List.setIfInBounds_toArray, List.set_cons_zero, List.set_cons_succ])) | fail)
    refine wpQuiet_nil ?_
    intro w5 hb5
    go_wp2_with fail
    go_ret
    exact ⟨by simp, below_ext hb2 hb5⟩
theorem fitPr {vs : List Value} (h : fits (List.replicate 3 K) vs) : ∃ s : Pr, vs = s.cells := by
  obtain ⟨a0, _, rfl, b0, h⟩ := fitInt h
  obtain ⟨a1, _, rfl, b1, h⟩ := fitInt h
  obtain ⟨a2, _, rfl, b2, h⟩ := fitInt h
  obtain rfl := fitNil h
  exact ⟨⟨a0, a1, a2⟩, rfl⟩
open Go.ChangeShapes Go.WideShapes Go.ChangeAt Go.Deep
set_option maxRecDepth 100000 in
theorem argsClearOrders (H : Type) (enc : TypeId × Value → H) (W : World) (args : Array Value) (hargs : Args Tryz.checked H enc [35, 35, 2] W args) :
    Calls Tryz.prog 5 args W fun e W' => e = .returned (.bool true) ∧ Below W.heap.size W W' := by
  obtain ⟨base, ds, p, hval, hA⟩ := hargs
  obtain ⟨v0, vs0, d0, ds0, p0, q0, hargs, rfl, rfl, h0, r0⟩ := trodAll_cons hA
  obtain ⟨v1, vs1, d1, ds1, p1, q1, rfl, rfl, rfl, h1, r1⟩ := trodAll_cons r0
  obtain ⟨v2, vs2, d2, ds2, p2, q2, rfl, rfl, rfl, h2, r2⟩ := trodAll_cons r1
  obtain ⟨rfl, rfl, rfl⟩ := trodAll_nil r2
  obtain rfl : args = #[v0, v1, v2] := by cases args; simp_all
  obtain ⟨c0, rfl, f0⟩ := open_flat (ks := List.replicate 3 K) 5 Tryz.underlying35 (by kernel_rfl) (hval 0 _ v0 rfl rfl) h0
  obtain ⟨c1, rfl, f1⟩ := open_flat (ks := List.replicate 3 K) 5 Tryz.underlying35 (by kernel_rfl) (hval 1 _ v1 rfl rfl) h1
  obtain ⟨r, rfl, _⟩ := open_int Tryz.underlying2 (hval 2 _ v2 rfl rfl) h2
  obtain ⟨a, rfl⟩ := fitPr f0
  obtain ⟨b, rfl⟩ := fitPr f1
  exact orders_law a b r W
theorem ownClearOrders : ownKnob Tryz.prog.godebug = none := by kernel_rfl
theorem laidClearOrders : laidOutB Tryz.prog = true := by kernel_rfl
set_option maxRecDepth 100000 in
theorem liftedClearOrders (os : Os) (started : os.Started) (H : Type) (enc : TypeId × Value → H) :
    ReturnsInHanded {} Tryz.checked os 5 .any (Rows.clearOrdersSpec.pre6 enc Tryz.prog Tryz.f5 Rows.clearOrdersRow.domain false) (Rows.clearOrdersSpec.post enc Tryz.prog Tryz.f5 false true false false) :=
  law_lifted (C := Tryz.checked) (ts := [35, 35, 2]) (tb := 4) ownClearOrders laidClearOrders started (by kernel_rfl) Tryz.func5 (by kernel_rfl)
    (ChangeSpec.witness6 (enc := enc) (C := Tryz.checked) false ⟨#[], #[.agg #[.int .i64 0, .int .i64 0, .int .i64 0], .agg #[.int .i64 0, .int .i64 0, .int .i64 0], .int .i64 0], []⟩ 8 (by kernel_rfl) (by kernel_rfl) (by kernel_rfl) (by kernel_rfl))
    rfl (by kernel_rfl) Tryz.underlying4 (by kernel_rfl)
    (fun ds h => by
      match ds, h with
      | [d0, d1, d2], _ => rfl)
    (fun W args h => argsClearOrders H enc W args h)
theorem provedClearOrders : Rows.ClearOrdersSaid :=
  OpenClaim.holds_of_wide 5 Tryz.f5 rfl rfl rfl rfl rfl rfl rfl ⟨rfl, rfl, rfl, rfl, rfl⟩ rfl rfl rfl rfl rfl (by kernel_rfl) Tryz.func5 (by kernel_rfl)
    (of_decide_eq_true (by kernel_rfl)) (by unfold Func.isWrapper; first | (rw [if_pos (by decide +kernel)]; kernel_rfl) | (rw [if_neg (by decide +kernel)]; exact ⟨rfl, rfl⟩))
    (fun os started H enc _ => liftedClearOrders os started H enc)
#print axioms provedClearOrders
end Cl
end Go.Proofs.YtacpjpkhmdcagaaGreat
