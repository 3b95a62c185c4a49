/- This text proves what the document's Apply makes of two lists: the contract of damperref38.Apply. It has no conditions but those that it states. -/
import Derived.Test.YtpopfjfmppmjdaaCmpAp
namespace Go.Proofs.Ytpopfjfmppmjdaa
set_option linter.unusedVariables false
open Go.RowKit
namespace Cmp
set_option maxHeartbeats 2000000
set_option maxRecDepth 10000
section
variable {w : World} {A : Option Addr} {ca : Nat} {B : Option Addr} {cb : Nat} {a b : List Msg}
theorem rapply_any {L : Option Addr} {cl : Nat} {l : List Edt} (hla : a.length ≤ 300) (hlb : b.length ≤ 300) (hll : l.length ≤ 1000) (hA : Rd w 9 A (a.map Msg.cells)) (hB : Rd w 9 B (b.map Msg.cells)) (hL : Rd w 3 L (l.map Edt.cells)) :
    Calls Try.prog 14 #[.slice A a.length ca, .slice B b.length cb, .slice L l.length cl] w (ApPost (ap a b l 0 0) b w) := by
  replace hA := Lib.hid hA
  replace hB := Lib.hid hB
  replace hL := Lib.hid hL
  go_enter Try.func14, Try.ntmps14
  go_wp2_with fail
  go_loopw [8, 9, 10, 11] (fun v i k n wr => ∃ (x y m : Nat) (vv : Value), vv = v ∧ i = .int .i64 x ∧ k = .int .i64 y ∧ n = .int .i64 m ∧ x ≤ a.length ∧ y ≤ b.length ∧ m ≤ l.length ∧ Hid (ap a b (l.drop m) x y = ap a b l 0 0) ∧ wr.ownsRow w.heap.size 40 9 vv (b.take y).length (flatM (b.take y)) ∧ Below w.heap.size w wr) (fun _ _ _ n _ => l.length - (intOf n).toNat)
  case atStart => exact ⟨0, 0, 0, _, rfl, rfl, rfl, rfl, Nat.zero_le _, Nat.zero_le _, Nat.zero_le _, Lib.hid rfl, World.ownsRow_nil _ _ _ _, Below.refl _ _⟩
  case round =>
    obtain ⟨x, y, m, vv, rfl, rfl, rfl, rfl, hx, hy, hm, hap, hown, hb⟩ := hrel
    by_cases hlt : m < l.length
    · have e1 : (m : Int) < (l.length : Int) := by omega
      obtain ⟨b1, o1, rfl, r1, m1⟩ := rd_edt (hL.out.below hb) hlt
      have hap2 := hap.out
      rw [List.drop_eq_getElem_cons hlt, ap] at hap2
      clear hap
      have hAr := Lib.hid (hA.out.below hb)
      have hBr := Lib.hid (hB.out.below hb)
      have hzb := hb.size
      have hR := Blk.new wr 33 #[.int .i64 0, .int .i64 0, .int .i64 0] _ rfl
      generalize l[m] = e at *
      replace hap2 := Lib.hid hap2
      go_wp2_with (first | (refine wpList_load_midw (by rfl) _ _ (by rfl) _ _ (by rfl) _ _ (by assumption) Try.underlying33 rfl (by kernel_rfl) ?_) | ((refine wpList_store_blk (by rfl) 33 _ _ (by rfl) _ _ (by rfl) (by rfl) _ _ hR (by kernel_rfl) (by rfl) ?_ ?_; (next => first | (simp [Value.oneCell']; done) | (simp [Value.oneCell', Edt.cells]; done) | exact Are.ordArr_one _); intro w5 hB5 hU5); have hb05 := below_upd (below_alloc (Below.refl wr.heap.size wr) _) (Nat.le_refl _) hU5; have hown5 := owns_ext hown hb05) | fail)
      clear r1 hR hU5
      have c0 : w5.cell? ⟨wr.heap.size, 0, none⟩ = some (.int .i64 e.op) := hB5.cell 0
      have c1 : w5.cell? ⟨wr.heap.size, 1, none⟩ = some (.int .i64 e.a) := hB5.cell 1
      have c2 : w5.cell? ⟨wr.heap.size, 2, none⟩ = some (.int .i64 e.b) := hB5.cell 2
      have hn5 := hB5.lt
      replace hB5 := Lib.hid hB5
      have hgd : good a b x y e = good a b x y e := rfl
      by_cases hg : good a b x y e = false
      · have hF : Hid (ap a b l 0 0 = false) := Lib.hid (by rw [← hap2.out, hg, Bool.false_and])
        clear hap2 hgd
        by_cases h1 : e.op < 0
        · have q0 : decide (e.op < 0) = true := decide_eq_true h1
          have q1 : e.op < 0 := h1
          clear hg
          refine wp_region_below_lit (by kernel_rfl) (by kernel_rfl) ?_
          repeat (first | go_big_quiet_skip | (go_big_quiet_want; go_big_quiet_op; go_big_quiet_on) | (refine q_load_mid (by rfl) _ _ (by rfl) (fun _ h => h) _ _ (by rfl) _ _ (by assumption) Try.underlying40 rfl (by kernel_rfl) ?_; (try simp only [Act.put, List.setIfInBounds_toArray, List.set_cons_zero, List.set_cons_succ])) | (refine Cmp.q_nem (by rfl) _ _ _ (by rfl) _ _ (by rfl) (by rfl) _ (by assumption) ?_; (try simp only [Act.put, List.setIfInBounds_toArray, List.set_cons_zero, List.set_cons_succ])) | (refine q_load_fld (by rfl) _ _ (by rfl) (fun _ h => h) _ _ (by rfl) ?_ ?_ ?_ ?_ ?_ ?_; rotate_left; (next => (repeat (first | (with_reducible refine BlkAt.new _ _ _ _ ?_; ((try simp) <;> omega)) | (with_reducible assumption) | (with_reducible refine Blk.at (t := ?_) ?_; rotate_left; with_reducible assumption) | with_reducible refine BlkAt.alloc ?_ _ | with_reducible refine BlkAt.drew ?_ | (with_reducible refine BlkAt.setSame ?_ _ _) | (with_reducible refine BlkAt.setCell ?_ ?_ _; rotate_left; ((try simp) <;> omega)) | (with_reducible refine BlkAt.ext (w := ?_) ?_ ?_; rotate_left 2; (with_reducible assumption)) | fail))); rotate_left; (next => first | (simp only [go_sem]; rfl) | rfl); (next => kernel_rfl); (try simp only [Act.put, List.setIfInBounds_toArray, List.set_cons_zero, List.set_cons_succ])) | (refine q_rem (by rfl) _ _ _ _ (by rfl) _ _ (by rfl) (by rfl) (by kernel_rfl) (by kernel_rfl) ?_ ?_; (next => omega); (try simp only [Act.put, List.setIfInBounds_toArray, List.set_cons_zero, List.set_cons_succ])) | (refine q_step_ex (by rfl) ?_; apply Exists.intro; refine ⟨fun W hW => ?_, ?_⟩; (next => (have hWc := fun (b o : Nat) (h : b < _) => (Ext.out hW).cell (p := ⟨b, o, none⟩) h); (try have hLK := HLK.out W (Ext.out hW)); go_simp; first | rfl | fail | fail); (try simp only [Act.put, List.setIfInBounds_toArray, List.set_cons_zero, List.set_cons_succ])) | fail)
          refine wpQuiet_nil ?_
          intro w6 hb6
          go_wp2_with fail
          go_ret2
          refine ⟨.slice none 0 0, ?_, ?_, below_ext hb (below_ext hb05 hb6)⟩
          · rw [hF.out]
            rfl
          · rw [hF.out]
            exact World.ownsRow_nil _ _ _ _
        · have p0 : ¬ e.op < 0 := h1
          have p1 : decide (e.op < 0) = false := decide_eq_false h1
          clear h1
          by_cases h1 : 2 < e.op
          · have q0 : decide (2 < e.op) = true := decide_eq_true h1
            clear hg
            refine wp_region_below_lit (by kernel_rfl) (by kernel_rfl) ?_
            repeat (first | go_big_quiet_skip | (go_big_quiet_want; go_big_quiet_op; go_big_quiet_on) | (refine q_load_mid (by rfl) _ _ (by rfl) (fun _ h => h) _ _ (by rfl) _ _ (by assumption) Try.underlying40 rfl (by kernel_rfl) ?_; (try simp only [Act.put, List.setIfInBounds_toArray, List.set_cons_zero, List.set_cons_succ])) | (refine Cmp.q_nem (by rfl) _ _ _ (by rfl) _ _ (by rfl) (by rfl) _ (by assumption) ?_; (try simp only [Act.put, List.setIfInBounds_toArray, List.set_cons_zero, List.set_cons_succ])) | (refine q_load_fld (by rfl) _ _ (by rfl) (fun _ h => h) _ _ (by rfl) ?_ ?_ ?_ ?_ ?_ ?_; rotate_left; (next => (repeat (first | (with_reducible refine BlkAt.new _ _ _ _ ?_; ((try simp) <;> omega)) | (with_reducible assumption) | (with_reducible refine Blk.at (t := ?_) ?_; rotate_left; with_reducible assumption) | with_reducible refine BlkAt.alloc ?_ _ | with_reducible refine BlkAt.drew ?_ | (with_reducible refine BlkAt.setSame ?_ _ _) | (with_reducible refine BlkAt.setCell ?_ ?_ _; rotate_left; ((try simp) <;> omega)) | (with_reducible refine BlkAt.ext (w := ?_) ?_ ?_; rotate_left 2; (with_reducible assumption)) | fail))); rotate_left; (next => first | (simp only [go_sem]; rfl) | rfl); (next => kernel_rfl); (try simp only [Act.put, List.setIfInBounds_toArray, List.set_cons_zero, List.set_cons_succ])) | (refine q_rem (by rfl) _ _ _ _ (by rfl) _ _ (by rfl) (by rfl) (by kernel_rfl) (by kernel_rfl) ?_ ?_; (next => omega); (try simp only [Act.put, List.setIfInBounds_toArray, List.set_cons_zero, List.set_cons_succ])) | (refine q_step_ex (by rfl) ?_; apply Exists.intro; refine ⟨fun W hW => ?_, ?_⟩; (next => (have hWc := fun (b o : Nat) (h : b < _) => (Ext.out hW).cell (p := ⟨b, o, none⟩) h); (try have hLK := HLK.out W (Ext.out hW)); go_simp; first | rfl | fail | fail); (try simp only [Act.put, List.setIfInBounds_toArray, List.set_cons_zero, List.set_cons_succ])) | fail)
            refine wpQuiet_nil ?_
            intro w6 hb6
            go_wp2_with fail
            go_ret2
            refine ⟨.slice none 0 0, ?_, ?_, below_ext hb (below_ext hb05 hb6)⟩
            · rw [hF.out]
              rfl
            · rw [hF.out]
              exact World.ownsRow_nil _ _ _ _
          · have p2 : ¬ 2 < e.op := h1
            have p3 : decide (2 < e.op) = false := decide_eq_false h1
            clear h1
            by_cases ha : e.a = (x : Int)
            · by_cases hbb : e.b = (y : Int)
              · have h012 : e.op = 0 ∨ e.op = 1 ∨ e.op = 2 := by omega
                rw [ha] at c1
                rw [hbb] at c2
                unfold good at hg
                rw [decide_eq_true ha, decide_eq_true hbb, Bool.true_and, Bool.true_and] at hg
                clear ha hbb p0 p1 p2 p3
                rcases h012 with ho | ho | ho
                · rw [ho] at c0
                  rw [if_pos ho] at hg
                  clear ho
                  by_cases hxl : x < a.length
                  · have qx : (x : Int) < (a.length : Int) := by omega
                    have qx2 : decide (a.length ≤ x) = false := decide_eq_false (by omega)
                    by_cases hyl : y < b.length
                    · rw [eqAt_in hxl hyl] at hg
                      have qy : (y : Int) < (b.length : Int) := by omega
                      have qy2 : decide (b.length ≤ y) = false := decide_eq_false (by omega)
                      obtain ⟨ba, oa, rfl, ra, la⟩ := rd_msg hAr.out hxl
                      obtain ⟨bb, ob, rfl, rb, lb⟩ := rd_msg hBr.out hyl
                      have ra5 := rng_ext ra hb05
                      have rb5 := rng_ext rb hb05
                      have he : Hid (eqM a[x] b[y] = !true) := Lib.hid hg
                      clear hg
                      generalize a[x] = X at *
                      generalize b[y] = Y at *
                      refine wp_region_below_lit (by kernel_rfl) (by kernel_rfl) ?_
                      repeat (first | go_big_quiet_skip | (go_big_quiet_want; go_big_quiet_op; go_big_quiet_on) | (refine q_load_mid (by rfl) _ _ (by rfl) (fun _ h => h) _ _ (by rfl) _ _ (by assumption) Try.underlying40 rfl (by kernel_rfl) ?_; (try simp only [Act.put, List.setIfInBounds_toArray, List.set_cons_zero, List.set_cons_succ])) | (refine Cmp.q_nem (by rfl) _ _ _ (by rfl) _ _ (by rfl) (by rfl) _ (by assumption) ?_; (try simp only [Act.put, List.setIfInBounds_toArray, List.set_cons_zero, List.set_cons_succ])) | (refine q_load_fld (by rfl) _ _ (by rfl) (fun _ h => h) _ _ (by rfl) ?_ ?_ ?_ ?_ ?_ ?_; rotate_left; (next => (repeat (first | (with_reducible refine BlkAt.new _ _ _ _ ?_; ((try simp) <;> omega)) | (with_reducible assumption) | (with_reducible refine Blk.at (t := ?_) ?_; rotate_left; with_reducible assumption) | with_reducible refine BlkAt.alloc ?_ _ | with_reducible refine BlkAt.drew ?_ | (with_reducible refine BlkAt.setSame ?_ _ _) | (with_reducible refine BlkAt.setCell ?_ ?_ _; rotate_left; ((try simp) <;> omega)) | (with_reducible refine BlkAt.ext (w := ?_) ?_ ?_; rotate_left 2; (with_reducible assumption)) | fail))); rotate_left; (next => first | (simp only [go_sem]; rfl) | rfl); (next => kernel_rfl); (try simp only [Act.put, List.setIfInBounds_toArray, List.set_cons_zero, List.set_cons_succ])) | (refine q_rem (by rfl) _ _ _ _ (by rfl) _ _ (by rfl) (by rfl) (by kernel_rfl) (by kernel_rfl) ?_ ?_; (next => omega); (try simp only [Act.put, List.setIfInBounds_toArray, List.set_cons_zero, List.set_cons_succ])) | (refine q_step_ex (by rfl) ?_; apply Exists.intro; refine ⟨fun W hW => ?_, ?_⟩; (next => (have hWc := fun (b o : Nat) (h : b < _) => (Ext.out hW).cell (p := ⟨b, o, none⟩) h); (try have hLK := HLK.out W (Ext.out hW)); go_simp; first | rfl | fail | fail); (try simp only [Act.put, List.setIfInBounds_toArray, List.set_cons_zero, List.set_cons_succ])) | fail)
                      refine wpQuiet_nil ?_
                      intro w6 hb6
                      go_wp2_with fail
                      go_ret2
                      refine ⟨.slice none 0 0, ?_, ?_, below_ext hb (below_ext hb05 hb6)⟩
                      · rw [hF.out]
                        rfl
                      · rw [hF.out]
                        exact World.ownsRow_nil _ _ _ _
                    · have qy2 : decide (b.length ≤ y) = true := decide_eq_true (by omega)
                      have qy : b.length ≤ y := by omega
                      clear hg
                      refine wp_region_below_lit (by kernel_rfl) (by kernel_rfl) ?_
                      repeat (first | go_big_quiet_skip | (go_big_quiet_want; go_big_quiet_op; go_big_quiet_on) | (refine q_load_mid (by rfl) _ _ (by rfl) (fun _ h => h) _ _ (by rfl) _ _ (by assumption) Try.underlying40 rfl (by kernel_rfl) ?_; (try simp only [Act.put, List.setIfInBounds_toArray, List.set_cons_zero, List.set_cons_succ])) | (refine Cmp.q_nem (by rfl) _ _ _ (by rfl) _ _ (by rfl) (by rfl) _ (by assumption) ?_; (try simp only [Act.put, List.setIfInBounds_toArray, List.set_cons_zero, List.set_cons_succ])) | (refine q_load_fld (by rfl) _ _ (by rfl) (fun _ h => h) _ _ (by rfl) ?_ ?_ ?_ ?_ ?_ ?_; rotate_left; (next => (repeat (first | (with_reducible refine BlkAt.new _ _ _ _ ?_; ((try simp) <;> omega)) | (with_reducible assumption) | (with_reducible refine Blk.at (t := ?_) ?_; rotate_left; with_reducible assumption) | with_reducible refine BlkAt.alloc ?_ _ | with_reducible refine BlkAt.drew ?_ | (with_reducible refine BlkAt.setSame ?_ _ _) | (with_reducible refine BlkAt.setCell ?_ ?_ _; rotate_left; ((try simp) <;> omega)) | (with_reducible refine BlkAt.ext (w := ?_) ?_ ?_; rotate_left 2; (with_reducible assumption)) | fail))); rotate_left; (next => first | (simp only [go_sem]; rfl) | rfl); (next => kernel_rfl); (try simp only [Act.put, List.setIfInBounds_toArray, List.set_cons_zero, List.set_cons_succ])) | (refine q_rem (by rfl) _ _ _ _ (by rfl) _ _ (by rfl) (by rfl) (by kernel_rfl) (by kernel_rfl) ?_ ?_; (next => omega); (try simp only [Act.put, List.setIfInBounds_toArray, List.set_cons_zero, List.set_cons_succ])) | (refine q_step_ex (by rfl) ?_; apply Exists.intro; refine ⟨fun W hW => ?_, ?_⟩; (next => (have hWc := fun (b o : Nat) (h : b < _) => (Ext.out hW).cell (p := ⟨b, o, none⟩) h); (try have hLK := HLK.out W (Ext.out hW)); go_simp; first | rfl | fail | fail); (try simp only [Act.put, List.setIfInBounds_toArray, List.set_cons_zero, List.set_cons_succ])) | fail)
                      refine wpQuiet_nil ?_
                      intro w6 hb6
                      go_wp2_with fail
                      go_ret2
                      refine ⟨.slice none 0 0, ?_, ?_, below_ext hb (below_ext hb05 hb6)⟩
                      · rw [hF.out]
                        rfl
                      · rw [hF.out]
                        exact World.ownsRow_nil _ _ _ _
                  · have qx2 : decide (a.length ≤ x) = true := decide_eq_true (by omega)
                    have qx : a.length ≤ x := by omega
                    clear hg
                    refine wp_region_below_lit (by kernel_rfl) (by kernel_rfl) ?_
                    repeat (first | go_big_quiet_skip | (go_big_quiet_want; go_big_quiet_op; go_big_quiet_on) | (refine q_load_mid (by rfl) _ _ (by rfl) (fun _ h => h) _ _ (by rfl) _ _ (by assumption) Try.underlying40 rfl (by kernel_rfl) ?_; (try simp only [Act.put, List.setIfInBounds_toArray, List.set_cons_zero, List.set_cons_succ])) | (refine Cmp.q_nem (by rfl) _ _ _ (by rfl) _ _ (by rfl) (by rfl) _ (by assumption) ?_; (try simp only [Act.put, List.setIfInBounds_toArray, List.set_cons_zero, List.set_cons_succ])) | (refine q_load_fld (by rfl) _ _ (by rfl) (fun _ h => h) _ _ (by rfl) ?_ ?_ ?_ ?_ ?_ ?_; rotate_left; (next => (repeat (first | (with_reducible refine BlkAt.new _ _ _ _ ?_; ((try simp) <;> omega)) | (with_reducible assumption) | (with_reducible refine Blk.at (t := ?_) ?_; rotate_left; with_reducible assumption) | with_reducible refine BlkAt.alloc ?_ _ | with_reducible refine BlkAt.drew ?_ | (with_reducible refine BlkAt.setSame ?_ _ _) | (with_reducible refine BlkAt.setCell ?_ ?_ _; rotate_left; ((try simp) <;> omega)) | (with_reducible refine BlkAt.ext (w := ?_) ?_ ?_; rotate_left 2; (with_reducible assumption)) | fail))); rotate_left; (next => first | (simp only [go_sem]; rfl) | rfl); (next => kernel_rfl); (try simp only [Act.put, List.setIfInBounds_toArray, List.set_cons_zero, List.set_cons_succ])) | (refine q_rem (by rfl) _ _ _ _ (by rfl) _ _ (by rfl) (by rfl) (by kernel_rfl) (by kernel_rfl) ?_ ?_; (next => omega); (try simp only [Act.put, List.setIfInBounds_toArray, List.set_cons_zero, List.set_cons_succ])) | (refine q_step_ex (by rfl) ?_; apply Exists.intro; refine ⟨fun W hW => ?_, ?_⟩; (next => (have hWc := fun (b o : Nat) (h : b < _) => (Ext.out hW).cell (p := ⟨b, o, none⟩) h); (try have hLK := HLK.out W (Ext.out hW)); go_simp; first | rfl | fail | fail); (try simp only [Act.put, List.setIfInBounds_toArray, List.set_cons_zero, List.set_cons_succ])) | fail)
                    refine wpQuiet_nil ?_
                    intro w6 hb6
                    go_wp2_with fail
                    go_ret2
                    refine ⟨.slice none 0 0, ?_, ?_, below_ext hb (below_ext hb05 hb6)⟩
                    · rw [hF.out]
                      rfl
                    · rw [hF.out]
                      exact World.ownsRow_nil _ _ _ _
                · rw [ho] at c0
                  rw [if_neg (by omega), if_pos ho] at hg
                  clear ho
                  have hxl := of_decide_eq_false hg
                  have qx2 : decide (a.length ≤ x) = true := decide_eq_true (by omega)
                  have qx : a.length ≤ x := by omega
                  clear hg
                  refine wp_region_below_lit (by kernel_rfl) (by kernel_rfl) ?_
                  repeat (first | go_big_quiet_skip | (go_big_quiet_want; go_big_quiet_op; go_big_quiet_on) | (refine q_load_mid (by rfl) _ _ (by rfl) (fun _ h => h) _ _ (by rfl) _ _ (by assumption) Try.underlying40 rfl (by kernel_rfl) ?_; (try simp only [Act.put, List.setIfInBounds_toArray, List.set_cons_zero, List.set_cons_succ])) | (refine Cmp.q_nem (by rfl) _ _ _ (by rfl) _ _ (by rfl) (by rfl) _ (by assumption) ?_; (try simp only [Act.put, List.setIfInBounds_toArray, List.set_cons_zero, List.set_cons_succ])) | (refine q_load_fld (by rfl) _ _ (by rfl) (fun _ h => h) _ _ (by rfl) ?_ ?_ ?_ ?_ ?_ ?_; rotate_left; (next => (repeat (first | (with_reducible refine BlkAt.new _ _ _ _ ?_; ((try simp) <;> omega)) | (with_reducible assumption) | (with_reducible refine Blk.at (t := ?_) ?_; rotate_left; with_reducible assumption) | with_reducible refine BlkAt.alloc ?_ _ | with_reducible refine BlkAt.drew ?_ | (with_reducible refine BlkAt.setSame ?_ _ _) | (with_reducible refine BlkAt.setCell ?_ ?_ _; rotate_left; ((try simp) <;> omega)) | (with_reducible refine BlkAt.ext (w := ?_) ?_ ?_; rotate_left 2; (with_reducible assumption)) | fail))); rotate_left; (next => first | (simp only [go_sem]; rfl) | rfl); (next => kernel_rfl); (try simp only [Act.put, List.setIfInBounds_toArray, List.set_cons_zero, List.set_cons_succ])) | (refine q_rem (by rfl) _ _ _ _ (by rfl) _ _ (by rfl) (by rfl) (by kernel_rfl) (by kernel_rfl) ?_ ?_; (next => omega); (try simp only [Act.put, List.setIfInBounds_toArray, List.set_cons_zero, List.set_cons_succ])) | (refine q_step_ex (by rfl) ?_; apply Exists.intro; refine ⟨fun W hW => ?_, ?_⟩; (next => (have hWc := fun (b o : Nat) (h : b < _) => (Ext.out hW).cell (p := ⟨b, o, none⟩) h); (try have hLK := HLK.out W (Ext.out hW)); go_simp; first | rfl | fail | fail); (try simp only [Act.put, List.setIfInBounds_toArray, List.set_cons_zero, List.set_cons_succ])) | fail)
                  refine wpQuiet_nil ?_
                  intro w6 hb6
                  go_wp2_with fail
                  go_ret2
                  refine ⟨.slice none 0 0, ?_, ?_, below_ext hb (below_ext hb05 hb6)⟩
                  · rw [hF.out]
                    rfl
                  · rw [hF.out]
                    exact World.ownsRow_nil _ _ _ _
                · rw [ho] at c0
                  rw [if_neg (by omega), if_neg (by omega), if_pos ho] at hg
                  clear ho
                  have hyl := of_decide_eq_false hg
                  have qy2 : decide (b.length ≤ y) = true := decide_eq_true (by omega)
                  have qy : b.length ≤ y := by omega
                  clear hg
                  refine wp_region_below_lit (by kernel_rfl) (by kernel_rfl) ?_
                  repeat (first | go_big_quiet_skip | (go_big_quiet_want; go_big_quiet_op; go_big_quiet_on) | (refine q_load_mid (by rfl) _ _ (by rfl) (fun _ h => h) _ _ (by rfl) _ _ (by assumption) Try.underlying40 rfl (by kernel_rfl) ?_; (try simp only [Act.put, List.setIfInBounds_toArray, List.set_cons_zero, List.set_cons_succ])) | (refine Cmp.q_nem (by rfl) _ _ _ (by rfl) _ _ (by rfl) (by rfl) _ (by assumption) ?_; (try simp only [Act.put, List.setIfInBounds_toArray, List.set_cons_zero, List.set_cons_succ])) | (refine q_load_fld (by rfl) _ _ (by rfl) (fun _ h => h) _ _ (by rfl) ?_ ?_ ?_ ?_ ?_ ?_; rotate_left; (next => (repeat (first | (with_reducible refine BlkAt.new _ _ _ _ ?_; ((try simp) <;> omega)) | (with_reducible assumption) | (with_reducible refine Blk.at (t := ?_) ?_; rotate_left; with_reducible assumption) | with_reducible refine BlkAt.alloc ?_ _ | with_reducible refine BlkAt.drew ?_ | (with_reducible refine BlkAt.setSame ?_ _ _) | (with_reducible refine BlkAt.setCell ?_ ?_ _; rotate_left; ((try simp) <;> omega)) | (with_reducible refine BlkAt.ext (w := ?_) ?_ ?_; rotate_left 2; (with_reducible assumption)) | fail))); rotate_left; (next => first | (simp only [go_sem]; rfl) | rfl); (next => kernel_rfl); (try simp only [Act.put, List.setIfInBounds_toArray, List.set_cons_zero, List.set_cons_succ])) | (refine q_rem (by rfl) _ _ _ _ (by rfl) _ _ (by rfl) (by rfl) (by kernel_rfl) (by kernel_rfl) ?_ ?_; (next => omega); (try simp only [Act.put, List.setIfInBounds_toArray, List.set_cons_zero, List.set_cons_succ])) | (refine q_step_ex (by rfl) ?_; apply Exists.intro; refine ⟨fun W hW => ?_, ?_⟩; (next => (have hWc := fun (b o : Nat) (h : b < _) => (Ext.out hW).cell (p := ⟨b, o, none⟩) h); (try have hLK := HLK.out W (Ext.out hW)); go_simp; first | rfl | fail | fail); (try simp only [Act.put, List.setIfInBounds_toArray, List.set_cons_zero, List.set_cons_succ])) | fail)
                  refine wpQuiet_nil ?_
                  intro w6 hb6
                  go_wp2_with fail
                  go_ret2
                  refine ⟨.slice none 0 0, ?_, ?_, below_ext hb (below_ext hb05 hb6)⟩
                  · rw [hF.out]
                    rfl
                  · rw [hF.out]
                    exact World.ownsRow_nil _ _ _ _
              · rw [ha] at c1
                have q1 : (e.b == (y : Int)) = false := by simpa using hbb
                have q2 : (e.b != (y : Int)) = true := by simpa using hbb
                have q3 : decide (e.b = (y : Int)) = false := decide_eq_false hbb
                clear hg ha
                refine wp_region_below_lit (by kernel_rfl) (by kernel_rfl) ?_
                repeat (first | go_big_quiet_skip | (go_big_quiet_want; go_big_quiet_op; go_big_quiet_on) | (refine q_load_mid (by rfl) _ _ (by rfl) (fun _ h => h) _ _ (by rfl) _ _ (by assumption) Try.underlying40 rfl (by kernel_rfl) ?_; (try simp only [Act.put, List.setIfInBounds_toArray, List.set_cons_zero, List.set_cons_succ])) | (refine Cmp.q_nem (by rfl) _ _ _ (by rfl) _ _ (by rfl) (by rfl) _ (by assumption) ?_; (try simp only [Act.put, List.setIfInBounds_toArray, List.set_cons_zero, List.set_cons_succ])) | (refine q_load_fld (by rfl) _ _ (by rfl) (fun _ h => h) _ _ (by rfl) ?_ ?_ ?_ ?_ ?_ ?_; rotate_left; (next => (repeat (first | (with_reducible refine BlkAt.new _ _ _ _ ?_; ((try simp) <;> omega)) | (with_reducible assumption) | (with_reducible refine Blk.at (t := ?_) ?_; rotate_left; with_reducible assumption) | with_reducible refine BlkAt.alloc ?_ _ | with_reducible refine BlkAt.drew ?_ | (with_reducible refine BlkAt.setSame ?_ _ _) | (with_reducible refine BlkAt.setCell ?_ ?_ _; rotate_left; ((try simp) <;> omega)) | (with_reducible refine BlkAt.ext (w := ?_) ?_ ?_; rotate_left 2; (with_reducible assumption)) | fail))); rotate_left; (next => first | (simp only [go_sem]; rfl) | rfl); (next => kernel_rfl); (try simp only [Act.put, List.setIfInBounds_toArray, List.set_cons_zero, List.set_cons_succ])) | (refine q_rem (by rfl) _ _ _ _ (by rfl) _ _ (by rfl) (by rfl) (by kernel_rfl) (by kernel_rfl) ?_ ?_; (next => omega); (try simp only [Act.put, List.setIfInBounds_toArray, List.set_cons_zero, List.set_cons_succ])) | (refine q_step_ex (by rfl) ?_; apply Exists.intro; refine ⟨fun W hW => ?_, ?_⟩; (next => (have hWc := fun (b o : Nat) (h : b < _) => (Ext.out hW).cell (p := ⟨b, o, none⟩) h); (try have hLK := HLK.out W (Ext.out hW)); go_simp; first | rfl | fail | fail); (try simp only [Act.put, List.setIfInBounds_toArray, List.set_cons_zero, List.set_cons_succ])) | fail)
                refine wpQuiet_nil ?_
                intro w6 hb6
                go_wp2_with fail
                go_ret2
                refine ⟨.slice none 0 0, ?_, ?_, below_ext hb (below_ext hb05 hb6)⟩
                · rw [hF.out]
                  rfl
                · rw [hF.out]
                  exact World.ownsRow_nil _ _ _ _
            · have q1 : (e.a == (x : Int)) = false := by simpa using ha
              have q2 : (e.a != (x : Int)) = true := by simpa using ha
              have q3 : decide (e.a = (x : Int)) = false := decide_eq_false ha
              clear hg
              refine wp_region_below_lit (by kernel_rfl) (by kernel_rfl) ?_
              repeat (first | go_big_quiet_skip | (go_big_quiet_want; go_big_quiet_op; go_big_quiet_on) | (refine q_load_mid (by rfl) _ _ (by rfl) (fun _ h => h) _ _ (by rfl) _ _ (by assumption) Try.underlying40 rfl (by kernel_rfl) ?_; (try simp only [Act.put, List.setIfInBounds_toArray, List.set_cons_zero, List.set_cons_succ])) | (refine Cmp.q_nem (by rfl) _ _ _ (by rfl) _ _ (by rfl) (by rfl) _ (by assumption) ?_; (try simp only [Act.put, List.setIfInBounds_toArray, List.set_cons_zero, List.set_cons_succ])) | (refine q_load_fld (by rfl) _ _ (by rfl) (fun _ h => h) _ _ (by rfl) ?_ ?_ ?_ ?_ ?_ ?_; rotate_left; (next => (repeat (first | (with_reducible refine BlkAt.new _ _ _ _ ?_; ((try simp) <;> omega)) | (with_reducible assumption) | (with_reducible refine Blk.at (t := ?_) ?_; rotate_left; with_reducible assumption) | with_reducible refine BlkAt.alloc ?_ _ | with_reducible refine BlkAt.drew ?_ | (with_reducible refine BlkAt.setSame ?_ _ _) | (with_reducible refine BlkAt.setCell ?_ ?_ _; rotate_left; ((try simp) <;> omega)) | (with_reducible refine BlkAt.ext (w := ?_) ?_ ?_; rotate_left 2; (with_reducible assumption)) | fail))); rotate_left; (next => first | (simp only [go_sem]; rfl) | rfl); (next => kernel_rfl); (try simp only [Act.put, List.setIfInBounds_toArray, List.set_cons_zero, List.set_cons_succ])) | (refine q_rem (by rfl) _ _ _ _ (by rfl) _ _ (by rfl) (by rfl) (by kernel_rfl) (by kernel_rfl) ?_ ?_; (next => omega); (try simp only [Act.put, List.setIfInBounds_toArray, List.set_cons_zero, List.set_cons_succ])) | (refine q_step_ex (by rfl) ?_; apply Exists.intro; refine ⟨fun W hW => ?_, ?_⟩; (next => (have hWc := fun (b o : Nat) (h : b < _) => (Ext.out hW).cell (p := ⟨b, o, none⟩) h); (try have hLK := HLK.out W (Ext.out hW)); go_simp; first | rfl | fail | fail); (try simp only [Act.put, List.setIfInBounds_toArray, List.set_cons_zero, List.set_cons_succ])) | fail)
              refine wpQuiet_nil ?_
              intro w6 hb6
              go_wp2_with fail
              go_ret2
              refine ⟨.slice none 0 0, ?_, ?_, below_ext hb (below_ext hb05 hb6)⟩
              · rw [hF.out]
                rfl
              · rw [hF.out]
                exact World.ownsRow_nil _ _ _ _
      · have hg : good a b x y e = true := by simpa using hg
        obtain ⟨ha, hb1', hop⟩ := good_in hg
        have hap3 := hap2.out
        rw [hg, Bool.true_and] at hap3
        clear hap2 hgd
        rw [ha] at c1
        rw [hb1'] at c2
        rcases hop with ⟨ho, hxl, hyl⟩ | ⟨ho, hxl⟩ | ⟨ho, hyl⟩
        · rw [ho] at c0 hap3
          replace hap3 : Hid (ap a b (l.drop (m + 1)) (x + 1) (y + 1) = ap a b l 0 0) := Lib.hid hap3
          have qx : (x : Int) < (a.length : Int) := by omega
          have qx2 : decide (a.length ≤ x) = false := decide_eq_false (by omega)
          have qy : (y : Int) < (b.length : Int) := by omega
          have qy2 : decide (b.length ≤ y) = false := decide_eq_false (by omega)
          have hge : eqM a[x] b[y] = true := by
            unfold good at hg
            rw [decide_eq_true ha, decide_eq_true hb1', Bool.true_and, Bool.true_and, if_pos ho, eqAt_in hxl hyl] at hg
            exact hg
          obtain ⟨ba, oa, rfl, ra, la⟩ := rd_msg hAr.out hxl
          have ra5 := rng_ext ra hb05
          obtain ⟨bb, ob, rfl, rb, lb⟩ := rd_msg hBr.out hyl
          have rb5 := rng_ext rb hb05
          have htk : Hid (b.take (y + 1) = b.take y ++ [b[y]]) := Lib.hid (by rw [List.take_succ_eq_append_getElem hyl])
          have hln : (b.take y).length ≤ 300 := by simp; omega
          have he : Hid (eqM a[x] b[y] = !false) := Lib.hid hge
          clear hge
          generalize a[x] = X at *
          clear hg ha hb1'
          generalize b[y] = z at *
          generalize b.take y = acc at *
          replace ho := Lib.hid ho
          refine wp_region_below_lit (by kernel_rfl) (by kernel_rfl) ?_
          repeat (first | go_big_quiet_skip | (go_big_quiet_want; go_big_quiet_op; go_big_quiet_on) | (refine q_load_mid (by rfl) _ _ (by rfl) (fun _ h => h) _ _ (by rfl) _ _ (by assumption) Try.underlying40 rfl (by kernel_rfl) ?_; (try simp only [Act.put, List.setIfInBounds_toArray, List.set_cons_zero, List.set_cons_succ])) | (refine Cmp.q_nem (by rfl) _ _ _ (by rfl) _ _ (by rfl) (by rfl) _ (by assumption) ?_; (try simp only [Act.put, List.setIfInBounds_toArray, List.set_cons_zero, List.set_cons_succ])) | (refine q_load_fld (by rfl) _ _ (by rfl) (fun _ h => h) _ _ (by rfl) ?_ ?_ ?_ ?_ ?_ ?_; rotate_left; (next => (repeat (first | (with_reducible refine BlkAt.new _ _ _ _ ?_; ((try simp) <;> omega)) | (with_reducible assumption) | (with_reducible refine Blk.at (t := ?_) ?_; rotate_left; with_reducible assumption) | with_reducible refine BlkAt.alloc ?_ _ | with_reducible refine BlkAt.drew ?_ | (with_reducible refine BlkAt.setSame ?_ _ _) | (with_reducible refine BlkAt.setCell ?_ ?_ _; rotate_left; ((try simp) <;> omega)) | (with_reducible refine BlkAt.ext (w := ?_) ?_ ?_; rotate_left 2; (with_reducible assumption)) | fail))); rotate_left; (next => first | (simp only [go_sem]; rfl) | rfl); (next => kernel_rfl); (try simp only [Act.put, List.setIfInBounds_toArray, List.set_cons_zero, List.set_cons_succ])) | (refine q_rem (by rfl) _ _ _ _ (by rfl) _ _ (by rfl) (by rfl) (by kernel_rfl) (by kernel_rfl) ?_ ?_; (next => omega); (try simp only [Act.put, List.setIfInBounds_toArray, List.set_cons_zero, List.set_cons_succ])) | (refine q_step_ex (by rfl) ?_; apply Exists.intro; refine ⟨fun W hW => ?_, ?_⟩; (next => (have hWc := fun (b o : Nat) (h : b < _) => (Ext.out hW).cell (p := ⟨b, o, none⟩) h); (try have hLK := HLK.out W (Ext.out hW)); go_simp; first | rfl | fail | fail); (try simp only [Act.put, List.setIfInBounds_toArray, List.set_cons_zero, List.set_cons_succ])) | fail)
          refine wpQuiet_nil ?_
          intro w6 hb6
          have hB6 := hB5.out.ext hb6
          have hown6 := owns_ext hown5 hb6
          have c06 : w6.cell? ⟨wr.heap.size, 0, none⟩ = some (.int .i64 0) := (hb6.cell (p := ⟨wr.heap.size, 0, none⟩) hn5).trans c0
          have rb6 := rng_ext rb5 hb6
          replace hB6 := Lib.hid hB6
          go_wp2_with (first | (refine wpList_load_midw (by rfl) _ _ (by rfl) _ _ (by rfl) _ _ (by assumption) Try.underlying40 rfl (by kernel_rfl) ?_) | (refine wpList_build1 (by rfl) 22 40 _ (by rfl) (.agg #[.int .i64 0, .int .i64 0, .int .i64 0, .int .i64 0, .int .i64 0, .int .i64 0, .int .i64 0, .int .i64 0, .int .i64 0]) 9 Try.underlying22 (by kernel_rfl) ⟨by decide, by decide⟩ (.agg z.cells.toArray) (by rfl) z.cells.toArray (by kernel_rfl) ?_; intro w7 hB7 hb7 hz7'; have hz7 := Lib.hid hz7'; clear hz7'; have hown7 := owns_ext hown6 hb7) | (refine wpList_append_rd (by rfl) _ _ _ (by rfl) w.heap.size 40 (.agg #[.int .i64 0, .int .i64 0, .int .i64 0, .int .i64 0, .int .i64 0, .int .i64 0, .int .i64 0, .int .i64 0, .int .i64 0]) 9 72 Try.underlying22 (by kernel_rfl) ⟨rfl, by decide⟩ _ acc.length _ (by rfl) hown7 (some ⟨w6.heap.size, 0, none⟩) 1 1 [z.cells] (by rfl) ?_ ⟨rfl, by simp [Msg.cells, Value.oneCell']⟩ (by simp) ?_ ?_ ?_; (next => exact rd_own hB7 (by simp [Msg.cells]) (n := 1) (by simp [Msg.cells])); (next => unfold maxLen; omega); (next => have h1 := hz7.out; have h2 := hb05.size; have h3 := hb6.size; omega); intro v8 w8 hown8 hb8 hz8 hk8; have hE6 := hB6.out.ext hb7; have hBe : Blk w8 wr.heap.size 33 e.cells.toArray := (hk8 _ hE6.lt (fun e => by have := owns_lt hown _ e; omega)).trans hE6; have cE : w8.cell? ⟨wr.heap.size, 0, none⟩ = some (.int .i64 0) := (hBe.cell 0).trans (congrArg (fun z => some (Value.int .i64 z)) ho.out); have hb08 := ((hb.trans ((below_ext hb05 hb6).mono hb.size)).trans (hb7.mono (by have h2 := hb05.size; have h3 := hb6.size; omega))).trans hb8) | fail)
          go_roundw
          case rel => exact ⟨(x + 1), (y + 1), m + 1, _, rfl, by go_num, by go_num, by go_num, by omega, by omega, by omega, hap3, by rw [htk.out, List.length_append, flatM_app]; simpa [flatM] using hown8, hb08⟩
          case measure => simp [intOf]; omega
        · rw [ho] at c0 hap3
          replace hap3 : Hid (ap a b (l.drop (m + 1)) (x + 1) y = ap a b l 0 0) := Lib.hid hap3
          have qx : (x : Int) < (a.length : Int) := by omega
          have qx2 : decide (a.length ≤ x) = false := decide_eq_false (by omega)
          clear hg ha hb1'
          replace ho := Lib.hid ho
          refine wp_region_below_lit (by kernel_rfl) (by kernel_rfl) ?_
          repeat (first | go_big_quiet_skip | (go_big_quiet_want; go_big_quiet_op; go_big_quiet_on) | (refine q_load_mid (by rfl) _ _ (by rfl) (fun _ h => h) _ _ (by rfl) _ _ (by assumption) Try.underlying40 rfl (by kernel_rfl) ?_; (try simp only [Act.put, List.setIfInBounds_toArray, List.set_cons_zero, List.set_cons_succ])) | (refine Cmp.q_nem (by rfl) _ _ _ (by rfl) _ _ (by rfl) (by rfl) _ (by assumption) ?_; (try simp only [Act.put, List.setIfInBounds_toArray, List.set_cons_zero, List.set_cons_succ])) | (refine q_load_fld (by rfl) _ _ (by rfl) (fun _ h => h) _ _ (by rfl) ?_ ?_ ?_ ?_ ?_ ?_; rotate_left; (next => (repeat (first | (with_reducible refine BlkAt.new _ _ _ _ ?_; ((try simp) <;> omega)) | (with_reducible assumption) | (with_reducible refine Blk.at (t := ?_) ?_; rotate_left; with_reducible assumption) | with_reducible refine BlkAt.alloc ?_ _ | with_reducible refine BlkAt.drew ?_ | (with_reducible refine BlkAt.setSame ?_ _ _) | (with_reducible refine BlkAt.setCell ?_ ?_ _; rotate_left; ((try simp) <;> omega)) | (with_reducible refine BlkAt.ext (w := ?_) ?_ ?_; rotate_left 2; (with_reducible assumption)) | fail))); rotate_left; (next => first | (simp only [go_sem]; rfl) | rfl); (next => kernel_rfl); (try simp only [Act.put, List.setIfInBounds_toArray, List.set_cons_zero, List.set_cons_succ])) | (refine q_rem (by rfl) _ _ _ _ (by rfl) _ _ (by rfl) (by rfl) (by kernel_rfl) (by kernel_rfl) ?_ ?_; (next => omega); (try simp only [Act.put, List.setIfInBounds_toArray, List.set_cons_zero, List.set_cons_succ])) | (refine q_step_ex (by rfl) ?_; apply Exists.intro; refine ⟨fun W hW => ?_, ?_⟩; (next => (have hWc := fun (b o : Nat) (h : b < _) => (Ext.out hW).cell (p := ⟨b, o, none⟩) h); (try have hLK := HLK.out W (Ext.out hW)); go_simp; first | rfl | fail | fail); (try simp only [Act.put, List.setIfInBounds_toArray, List.set_cons_zero, List.set_cons_succ])) | fail)
          refine wpQuiet_nil ?_
          intro w6 hb6
          have hB6 := hB5.out.ext hb6
          have hown6 := owns_ext hown5 hb6
          have c06 : w6.cell? ⟨wr.heap.size, 0, none⟩ = some (.int .i64 1) := (hb6.cell (p := ⟨wr.heap.size, 0, none⟩) hn5).trans c0
          go_wp2_with fail
          go_roundw
          case rel => exact ⟨(x + 1), y, m + 1, _, rfl, by go_num, by go_num, by go_num, by omega, by omega, by omega, hap3, hown6, below_ext hb (below_ext hb05 hb6)⟩
          case measure => simp [intOf]; omega
        · rw [ho] at c0 hap3
          replace hap3 : Hid (ap a b (l.drop (m + 1)) x (y + 1) = ap a b l 0 0) := Lib.hid hap3
          have qy : (y : Int) < (b.length : Int) := by omega
          have qy2 : decide (b.length ≤ y) = false := decide_eq_false (by omega)
          obtain ⟨bb, ob, rfl, rb, lb⟩ := rd_msg hBr.out hyl
          have rb5 := rng_ext rb hb05
          have htk : Hid (b.take (y + 1) = b.take y ++ [b[y]]) := Lib.hid (by rw [List.take_succ_eq_append_getElem hyl])
          have hln : (b.take y).length ≤ 300 := by simp; omega
          clear hg ha hb1'
          generalize b[y] = z at *
          generalize b.take y = acc at *
          replace ho := Lib.hid ho
          refine wp_region_below_lit (by kernel_rfl) (by kernel_rfl) ?_
          repeat (first | go_big_quiet_skip | (go_big_quiet_want; go_big_quiet_op; go_big_quiet_on) | (refine q_load_mid (by rfl) _ _ (by rfl) (fun _ h => h) _ _ (by rfl) _ _ (by assumption) Try.underlying40 rfl (by kernel_rfl) ?_; (try simp only [Act.put, List.setIfInBounds_toArray, List.set_cons_zero, List.set_cons_succ])) | (refine Cmp.q_nem (by rfl) _ _ _ (by rfl) _ _ (by rfl) (by rfl) _ (by assumption) ?_; (try simp only [Act.put, List.setIfInBounds_toArray, List.set_cons_zero, List.set_cons_succ])) | (refine q_load_fld (by rfl) _ _ (by rfl) (fun _ h => h) _ _ (by rfl) ?_ ?_ ?_ ?_ ?_ ?_; rotate_left; (next => (repeat (first | (with_reducible refine BlkAt.new _ _ _ _ ?_; ((try simp) <;> omega)) | (with_reducible assumption) | (with_reducible refine Blk.at (t := ?_) ?_; rotate_left; with_reducible assumption) | with_reducible refine BlkAt.alloc ?_ _ | with_reducible refine BlkAt.drew ?_ | (with_reducible refine BlkAt.setSame ?_ _ _) | (with_reducible refine BlkAt.setCell ?_ ?_ _; rotate_left; ((try simp) <;> omega)) | (with_reducible refine BlkAt.ext (w := ?_) ?_ ?_; rotate_left 2; (with_reducible assumption)) | fail))); rotate_left; (next => first | (simp only [go_sem]; rfl) | rfl); (next => kernel_rfl); (try simp only [Act.put, List.setIfInBounds_toArray, List.set_cons_zero, List.set_cons_succ])) | (refine q_rem (by rfl) _ _ _ _ (by rfl) _ _ (by rfl) (by rfl) (by kernel_rfl) (by kernel_rfl) ?_ ?_; (next => omega); (try simp only [Act.put, List.setIfInBounds_toArray, List.set_cons_zero, List.set_cons_succ])) | (refine q_step_ex (by rfl) ?_; apply Exists.intro; refine ⟨fun W hW => ?_, ?_⟩; (next => (have hWc := fun (b o : Nat) (h : b < _) => (Ext.out hW).cell (p := ⟨b, o, none⟩) h); (try have hLK := HLK.out W (Ext.out hW)); go_simp; first | rfl | fail | fail); (try simp only [Act.put, List.setIfInBounds_toArray, List.set_cons_zero, List.set_cons_succ])) | fail)
          refine wpQuiet_nil ?_
          intro w6 hb6
          have hB6 := hB5.out.ext hb6
          have hown6 := owns_ext hown5 hb6
          have c06 : w6.cell? ⟨wr.heap.size, 0, none⟩ = some (.int .i64 2) := (hb6.cell (p := ⟨wr.heap.size, 0, none⟩) hn5).trans c0
          have rb6 := rng_ext rb5 hb6
          replace hB6 := Lib.hid hB6
          go_wp2_with (first | (refine wpList_load_midw (by rfl) _ _ (by rfl) _ _ (by rfl) _ _ (by assumption) Try.underlying40 rfl (by kernel_rfl) ?_) | (refine wpList_build1 (by rfl) 22 40 _ (by rfl) (.agg #[.int .i64 0, .int .i64 0, .int .i64 0, .int .i64 0, .int .i64 0, .int .i64 0, .int .i64 0, .int .i64 0, .int .i64 0]) 9 Try.underlying22 (by kernel_rfl) ⟨by decide, by decide⟩ (.agg z.cells.toArray) (by rfl) z.cells.toArray (by kernel_rfl) ?_; intro w7 hB7 hb7 hz7'; have hz7 := Lib.hid hz7'; clear hz7'; have hown7 := owns_ext hown6 hb7) | (refine wpList_append_rd (by rfl) _ _ _ (by rfl) w.heap.size 40 (.agg #[.int .i64 0, .int .i64 0, .int .i64 0, .int .i64 0, .int .i64 0, .int .i64 0, .int .i64 0, .int .i64 0, .int .i64 0]) 9 72 Try.underlying22 (by kernel_rfl) ⟨rfl, by decide⟩ _ acc.length _ (by rfl) hown7 (some ⟨w6.heap.size, 0, none⟩) 1 1 [z.cells] (by rfl) ?_ ⟨rfl, by simp [Msg.cells, Value.oneCell']⟩ (by simp) ?_ ?_ ?_; (next => exact rd_own hB7 (by simp [Msg.cells]) (n := 1) (by simp [Msg.cells])); (next => unfold maxLen; omega); (next => have h1 := hz7.out; have h2 := hb05.size; have h3 := hb6.size; omega); intro v8 w8 hown8 hb8 hz8 hk8; have hE6 := hB6.out.ext hb7; have hBe : Blk w8 wr.heap.size 33 e.cells.toArray := (hk8 _ hE6.lt (fun e => by have := owns_lt hown _ e; omega)).trans hE6; have cE : w8.cell? ⟨wr.heap.size, 0, none⟩ = some (.int .i64 2) := (hBe.cell 0).trans (congrArg (fun z => some (Value.int .i64 z)) ho.out); have hb08 := ((hb.trans ((below_ext hb05 hb6).mono hb.size)).trans (hb7.mono (by have h2 := hb05.size; have h3 := hb6.size; omega))).trans hb8) | fail)
          go_roundw
          case rel => exact ⟨x, (y + 1), m + 1, _, rfl, by go_num, by go_num, by go_num, by omega, by omega, by omega, hap3, by rw [htk.out, List.length_append, flatM_app]; simpa [flatM] using hown8, hb08⟩
          case measure => simp [intOf]; omega
    · have hme : m = l.length := by omega
      subst hme
      have hap2 := hap.out
      rw [List.drop_length, ap] at hap2
      clear hap
      by_cases hxa : x < a.length
      · rw [decide_eq_false (by omega), Bool.false_and] at hap2
        replace hap2 := Lib.hid hap2
        have e1 : (x : Int) < (a.length : Int) := by omega
        go_wp2_with fail
        go_ret2
        refine ⟨.slice none 0 0, ?_, ?_, hb⟩
        · rw [← hap2.out]
          rfl
        · rw [← hap2.out]
          exact World.ownsRow_nil _ _ _ _
      · by_cases hyb : y < b.length
        · rw [decide_eq_false (show ¬ y = b.length by omega), Bool.and_false] at hap2
          replace hap2 := Lib.hid hap2
          have e1 : ¬ (x : Int) < (a.length : Int) := by omega
          have e2 : (y : Int) < (b.length : Int) := by omega
          go_wp2_with fail
          go_ret2
          refine ⟨.slice none 0 0, ?_, ?_, hb⟩
          · rw [← hap2.out]
            rfl
          · rw [← hap2.out]
            exact World.ownsRow_nil _ _ _ _
        · have hxe : x = a.length := by omega
          have hye : y = b.length := by omega
          subst hxe hye
          rw [decide_eq_true rfl, decide_eq_true rfl, Bool.true_and] at hap2
          replace hap2 := Lib.hid hap2
          rw [List.take_of_length_le (Nat.le_refl _)] at hown
          go_wp2_with fail
          go_ret2
          refine ⟨vv, ?_, ?_, hb⟩
          · rw [← hap2.out]
            rfl
          · rw [← hap2.out]
            exact hown
end
end Cmp
end Go.Proofs.Ytpopfjfmppmjdaa
