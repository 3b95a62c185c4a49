/- This text proves which edits the document gives: the contract of damperref38.Edits, and of Same. It has no conditions but those that they state. -/
import Derived.Test.YtpopfjfmppmjdaaCmpEd
import Derived.Test.YtpopfjfmppmjdaaCmpRef
namespace Go.Proofs.Ytpopfjfmppmjdaa
set_option linter.unusedVariables false
open Go.RowKit
namespace Cmp
set_option maxHeartbeats 1000000
set_option maxRecDepth 10000
section
variable {a b : List Msg} {i k : Nat}
theorem op_eq (h1 : i < a.length) (h2 : k < b.length) (e : eqM a[i] b[k] = true) : opAt a b i k = 0 := by
  have e1 : eqAt a b i k = eqM a[i] b[k] := by simp [eqAt, h1, h2]
  unfold opAt
  rw [e1, e, if_pos rfl]
theorem op_drop (h1 : i < a.length) (h2 : k < b.length) (e : eqM a[i] b[k] = false) (h3 : T a b i (k + 1) ≤ T a b (i + 1) k) : opAt a b i k = 1 := by
  have e1 : eqAt a b i k = eqM a[i] b[k] := by simp [eqAt, h1, h2]
  unfold opAt
  rw [e1, e, if_neg (by decide), if_neg (by omega), if_pos ⟨h1, h3⟩]
theorem op_add (h1 : i < a.length) (h2 : k < b.length) (e : eqM a[i] b[k] = false) (h3 : ¬ T a b i (k + 1) ≤ T a b (i + 1) k) : opAt a b i k = 2 := by
  have e1 : eqAt a b i k = eqM a[i] b[k] := by simp [eqAt, h1, h2]
  unfold opAt
  rw [e1, e, if_neg (by decide), if_neg (by omega), if_neg (fun x => h3 x.2)]
theorem op_kend (h : k = b.length) : opAt a b i k = 1 := by
  unfold opAt eqAt
  rw [List.getElem?_eq_none (show b.length ≤ k by omega)]
  cases a[i]? <;> simp [h]
theorem op_iend (h : i = a.length) (h2 : k < b.length) : opAt a b i k = 2 := by
  unfold opAt eqAt
  rw [List.getElem?_eq_none (show a.length ≤ i by omega)]
  simp [h]
  omega
end
section
variable {w : World} {A : Option Addr} {ca : Nat} {B : Option Addr} {cb : Nat} {a b : List Msg}
theorem redits_long (hca : (a.length : Int) ≤ 9223372036854775807) (hcb : (b.length : Int) ≤ 9223372036854775807) (h : 300 < a.length ∨ 300 < b.length) :
    Calls Try.prog 12 #[.slice A a.length ca, .slice B b.length cb] w fun e w' => e = .returned (.slice none 0 0) ∧ w' = w := by
  have hc := Lib.hid (long_any (A := A) (ca := ca) (B := B) (cb := cb) (w := w) hca hcb true (Lib.hid (by rw [decide_eq_true h])))
  clear h
  go_enter Try.func12, Try.ntmps12
  go_wp2_with (go_at_call 18; refine hc.out.mono ?_; rintro e w4 ⟨rfl, rfl⟩)
  go_ret
  exact ⟨rfl, rfl⟩
def REditsPost (a b : List Msg) (w : World) (e : Ending) (w' : World) : Prop :=
  ∃ v, e = .returned v ∧ w'.ownsRow w.heap.size 33 3 v (edits a b).length (flatE (edits a b)) ∧ Below w.heap.size w w'
theorem redits_any (hla : a.length ≤ 300) (hlb : b.length ≤ 300) (hA : Rd w 9 A (a.map Msg.cells)) (hB : Rd w 9 B (b.map Msg.cells)) :
    Calls Try.prog 12 #[.slice A a.length ca, .slice B b.length cb] w (REditsPost a b w) := by
  have hc := Lib.hid (long_any (a := a) (b := b) (A := A) (ca := ca) (B := B) (cb := cb) (w := w) (by omega) (by omega) false (Lib.hid (by rw [decide_eq_false (by omega)])))
  have hd := Lib.hid (lengths_any (ca := ca) (cb := cb) hla hlb hA hB)
  replace hA := Lib.hid hA
  replace hB := Lib.hid hB
  go_enter Try.func12, Try.ntmps12
  go_wp2_with (first | (go_at_call 19; refine hd.out.mono ?_; rintro e w1 ⟨bo, br, rfl, l1, hb1⟩) | (go_at_call 18; refine hc.out.mono ?_; rintro e w4 ⟨rfl, hw4⟩; subst hw4))
  go_loopw [6, 7, 8] (fun v i k wr => ∃ (x y f : Nat) (acc : List Edt) (vv : Value), v = vv ∧ i = .int .i64 x ∧ k = .int .i64 y ∧ x ≤ a.length ∧ y ≤ b.length ∧ a.length - x + (b.length - y) ≤ f ∧ Hid (acc ++ ed a b f x y = edits a b) ∧ wr.ownsRow w1.heap.size 33 3 vv acc.length (flatE acc) ∧ Below w1.heap.size w1 wr) (fun _ i k _ => (a.length - (intOf i).toNat) + (b.length - (intOf k).toNat))
  case atStart => exact ⟨0, 0, a.length + b.length, [], _, rfl, rfl, rfl, Nat.zero_le _, Nat.zero_le _, by omega, Lib.hid rfl, World.ownsRow_nil _ _ _ _, Below.refl _ _⟩
  case round =>
    obtain ⟨x, y, f, acc, vv, rfl, rfl, rfl, hx, hy, hf, hacc, hown, hb⟩ := hrel
    by_cases hend : x = a.length ∧ y = b.length
    · obtain ⟨rfl, rfl⟩ := hend
      go_wp2_with fail
      go_ret
      have he := hacc.out
      rw [ed_end, List.append_nil] at he
      exact ⟨_, rfl, by rw [← he]; exact owns_mono hown hb1.size, below_ext hb1 hb⟩
    · obtain ⟨f, rfl⟩ : ∃ n, f = n + 1 := ⟨f - 1, by omega⟩
      have hln : acc.length ≤ 600 := by
        have h3 := congrArg List.length hacc.out
        have h4 := ed_len a b (a.length + b.length) 0 0
        unfold edits at h3
        rw [List.length_append] at h3
        omega
      have hacc2 := hacc.out
      rw [ed_step _ _ _ _ _ hend] at hacc2
      clear hacc
      have hzb := hb.size
      have l := l1.ext hb
      have m0 := l.lt
      by_cases hxl : x < a.length
      · by_cases hyl : y < b.length
        · have hi2 : (x : Int) < (a.length : Int) := by omega
          have hk1 : (y : Int) < (b.length : Int) := by omega
          have hk2 : (y : Int) < (b.length : Int) + 1 := by omega
          have hi1 : (x : Int) < (a.length : Int) + 1 := by omega
          have e2 : ¬ (y : Int) = (b.length : Int) := by omega
          have e4 : ((y : Int) == (b.length : Int)) = false := by simpa using e2
          have hxn : x < a.length + 1 := by omega
          have hyn : y < b.length + 1 := by omega
          obtain ⟨ba, oa, rfl, ra, la⟩ := rd_msg (hA.out.below (below_ext hb1 hb)) hxl
          obtain ⟨bb, ob, rfl, rb, lb⟩ := rd_msg (hB.out.below (below_ext hb1 hb)) hyl
          cases e : eqM a[x] b[y]
          · obtain ⟨i1, hi1e⟩ : ∃ n, n = x + 1 := ⟨_, rfl⟩
            obtain ⟨k1, hk1e⟩ : ∃ n, n = y + 1 := ⟨_, rfl⟩
            have g1 := T_le a b i1 y
            have g2 := T_le a b x k1
            have u1 : IntKind.i64.wrap ((x : Int) + 1) = (i1 : Int) := by rw [IntWalk.i64_in _ (by omega)]; omega
            have u2 : IntKind.i64.wrap ((y : Int) + 1) = (k1 : Int) := by rw [IntWalk.i64_in _ (by omega)]; omega
            have hi3 : (i1 : Int) < (a.length : Int) + 1 := by omega
            have hk3 : (k1 : Int) < (b.length : Int) + 1 := by omega
            have hi1n : i1 < a.length + 1 := by omega
            have hk1n : k1 < b.length + 1 := by omega
            by_cases hpq : T a b (x) (y + 1) ≤ T a b (x + 1) y
            · have ho := op_drop hxl hyl e hpq
              rw [ho] at hacc2
              have hacc3 : Hid ((acc ++ [⟨(1 : Nat), x, y⟩]) ++ ed a b f (x + 1) y = edits a b) := Lib.hid (by rw [← hacc2, List.append_assoc]; simp [edAt, ho])
              clear hacc2 ho hend
              rw [← hi1e, ← hk1e] at hpq
              have p1 : Hid (T a b i1 y = T a b i1 y) := Lib.hid rfl
              have p2 : Hid (T a b x k1 = T a b x k1) := Lib.hid rfl
              obtain ⟨p, hp⟩ : ∃ p, T a b i1 y = p := ⟨_, rfl⟩
              obtain ⟨q, hq⟩ : ∃ q, T a b x k1 = q := ⟨_, rfl⟩
              rw [hp] at hpq g1
              rw [hq] at hpq g2
              replace hp := Lib.hid hp
              replace hq := Lib.hid hq
              clear p1 p2
              have hpi : (q : Int) ≤ (p : Int) := by omega
              replace hi1e := Lib.hid hi1e
              replace hk1e := Lib.hid hk1e
              replace e := Lib.hid e
              generalize a[x] = X at *
              generalize b[y] = Y at *
              go_wp2_with fail
              refine wp_region_below_lit (by kernel_rfl) (by kernel_rfl) ?_
              repeat (first | go_big_quiet_skip | (go_big_quiet_want; go_big_quiet_op; go_big_quiet_on) | (refine q_load_mid (by rfl) _ _ (by rfl) (fun _ h => h) _ _ (by rfl) _ _ (by assumption) Try.underlying40 rfl (by kernel_rfl) ?_; (try simp only [Act.put, List.setIfInBounds_toArray, List.set_cons_zero, List.set_cons_succ])) | (refine Cmp.q_eqmv (by rfl) _ _ _ (by rfl) _ _ (by rfl) (by rfl) _ (by assumption) ?_; (try simp only [Act.put, List.setIfInBounds_toArray, List.set_cons_zero, List.set_cons_succ])) | (refine q_load_fld (by rfl) _ _ (by rfl) (fun _ h => h) _ _ (by rfl) ?_ ?_ ?_ ?_ ?_ ?_; rotate_left; (next => (repeat (first | (with_reducible refine BlkAt.new _ _ _ _ ?_; ((try simp) <;> omega)) | (with_reducible assumption) | (with_reducible refine Blk.at (t := ?_) ?_; rotate_left; with_reducible assumption) | with_reducible refine BlkAt.alloc ?_ _ | with_reducible refine BlkAt.drew ?_ | (with_reducible refine BlkAt.setSame ?_ _ _) | (with_reducible refine BlkAt.setCell ?_ ?_ _; rotate_left; ((try simp) <;> omega)) | (with_reducible refine BlkAt.ext (w := ?_) ?_ ?_; rotate_left 2; (with_reducible assumption)) | fail))); rotate_left; (next => first | (simp only [go_sem]; rfl) | rfl); (next => kernel_rfl); (try simp only [Act.put, List.setIfInBounds_toArray, List.set_cons_zero, List.set_cons_succ])) | (refine q_rem (by rfl) _ _ _ _ (by rfl) _ _ (by rfl) (by rfl) (by kernel_rfl) (by kernel_rfl) ?_ ?_; (next => omega); (try simp only [Act.put, List.setIfInBounds_toArray, List.set_cons_zero, List.set_cons_succ])) | (refine q_step_ex (by rfl) ?_; apply Exists.intro; refine ⟨fun W hW => ?_, ?_⟩; (next => (have hWc := fun (b o : Nat) (h : b < _) => (Ext.out hW).cell (p := ⟨b, o, none⟩) h); (try have hLK := HLK.out W (Ext.out hW)); go_simp; first | rfl | fail | fail); (try simp only [Act.put, List.setIfInBounds_toArray, List.set_cons_zero, List.set_cons_succ])) | fail)
              refine wpQuiet_nil ?_
              intro w6 hb6
              have l6 := l.ext hb6
              have d0 := l6.cOut (Nat.zero_le _) hxn
              have d1 := l6.cOut (Nat.zero_le _) hi1n
              have m6 := l6.lt
              have m1 := l6.ltRow (Nat.zero_le _) hxn
              have m2 := l6.ltRow (Nat.zero_le _) hi1n
              have d2 := l6.cVal hp (Nat.zero_le _) hi1n hyn
              have d3 := l6.cVal hq (Nat.zero_le _) hxn hk1n
              go_wp2_with fail
              refine wp_region_below_lit (by kernel_rfl) (by kernel_rfl) ?_
              repeat (first | go_big_quiet_skip | (go_big_quiet_want; go_big_quiet_op; go_big_quiet_on) | (refine q_load_fld (by rfl) _ _ (by rfl) (fun _ h => h) _ _ (by rfl) ?_ ?_ ?_ ?_ ?_ ?_; rotate_left; (next => (repeat (first | (with_reducible refine BlkAt.new _ _ _ _ ?_; ((try simp) <;> omega)) | (with_reducible assumption) | (with_reducible refine Blk.at (t := ?_) ?_; rotate_left; with_reducible assumption) | with_reducible refine BlkAt.alloc ?_ _ | with_reducible refine BlkAt.drew ?_ | (with_reducible refine BlkAt.setSame ?_ _ _) | (with_reducible refine BlkAt.setCell ?_ ?_ _; rotate_left; ((try simp) <;> omega)) | (with_reducible refine BlkAt.ext (w := ?_) ?_ ?_; rotate_left 2; (with_reducible assumption)) | fail))); rotate_left; (next => first | (simp only [go_sem]; rfl) | rfl); (next => kernel_rfl); (try simp only [Act.put, List.setIfInBounds_toArray, List.set_cons_zero, List.set_cons_succ])) | (refine q_rem (by rfl) _ _ _ _ (by rfl) _ _ (by rfl) (by rfl) (by kernel_rfl) (by kernel_rfl) ?_ ?_; (next => omega); (try simp only [Act.put, List.setIfInBounds_toArray, List.set_cons_zero, List.set_cons_succ])) | (refine q_step_ex (by rfl) ?_; apply Exists.intro; refine ⟨fun W hW => ?_, ?_⟩; (next => (have hWc := fun (b o : Nat) (h : b < _) => (Ext.out hW).cell (p := ⟨b, o, none⟩) h); (try have hLK := HLK.out W (Ext.out hW)); go_simp; first | rfl | fail | fail); (try simp only [Act.put, List.setIfInBounds_toArray, List.set_cons_zero, List.set_cons_succ])) | fail)
              refine wpQuiet_nil ?_
              intro w7 hb7
              have hb07 := below_ext hb6 hb7
              have hown7 := owns_ext hown hb07
              go_wp2_with (first | (refine wpList_build1 (by rfl) 26 33 _ (by rfl) (.agg #[.int .i64 0, .int .i64 0, .int .i64 0]) 3 Try.underlying26 (by kernel_rfl) ⟨by decide, by decide⟩ (.agg #[.int .i64 1, .int .i64 x, .int .i64 y]) (by rfl) #[.int .i64 1, .int .i64 x, .int .i64 y] (by kernel_rfl) ?_; intro w8 hB8 hb8 hz8'; have hz8 := Lib.hid hz8'; clear hz8'; have hown8 := owns_ext hown7 hb8) | (refine wpList_append_rd (by rfl) _ _ _ (by rfl) w1.heap.size 33 (.agg #[.int .i64 0, .int .i64 0, .int .i64 0]) 3 24 Try.underlying26 (by kernel_rfl) ⟨rfl, by decide⟩ _ acc.length _ (by rfl) hown8 (some ⟨w7.heap.size, 0, none⟩) 1 1 [[.int .i64 1, .int .i64 x, .int .i64 y]] (by rfl) ?_ ⟨rfl, by simp [Value.oneCell']⟩ (by simp) ?_ ?_ ?_; (next => exact rd_own hB8 (by simp) (n := 1) (by simp)); (next => unfold maxLen; omega); (next => have h1 := hz8.out; have h2 := hb07.size; omega); intro v9 w9 hown9 hb9 hz9 hk9; have hb19 := (hb.trans ((below_ext hb07 hb8).mono hb.size)).trans hb9) | fail)
              obtain rfl := hi1e.out
              obtain rfl := hk1e.out
              go_roundw
              case rel => exact ⟨(x + 1), y, f, _, _, rfl, by go_num, by go_num, by omega, by omega, by omega, hacc3, by rw [List.length_append, flatE_app]; exact hown9, hb19⟩
              case measure => simp [intOf]; omega
            · have ho := op_add hxl hyl e hpq
              rw [ho] at hacc2
              have hacc3 : Hid ((acc ++ [⟨(2 : Nat), x, y⟩]) ++ ed a b f x (y + 1) = edits a b) := Lib.hid (by rw [← hacc2, List.append_assoc]; simp [edAt, ho])
              clear hacc2 ho hend
              rw [← hi1e, ← hk1e] at hpq
              have p1 : Hid (T a b i1 y = T a b i1 y) := Lib.hid rfl
              have p2 : Hid (T a b x k1 = T a b x k1) := Lib.hid rfl
              obtain ⟨p, hp⟩ : ∃ p, T a b i1 y = p := ⟨_, rfl⟩
              obtain ⟨q, hq⟩ : ∃ q, T a b x k1 = q := ⟨_, rfl⟩
              rw [hp] at hpq g1
              rw [hq] at hpq g2
              replace hp := Lib.hid hp
              replace hq := Lib.hid hq
              clear p1 p2
              have hpi : ¬ (q : Int) ≤ (p : Int) := by omega
              replace hi1e := Lib.hid hi1e
              replace hk1e := Lib.hid hk1e
              replace e := Lib.hid e
              generalize a[x] = X at *
              generalize b[y] = Y at *
              go_wp2_with fail
              refine wp_region_below_lit (by kernel_rfl) (by kernel_rfl) ?_
              repeat (first | go_big_quiet_skip | (go_big_quiet_want; go_big_quiet_op; go_big_quiet_on) | (refine q_load_mid (by rfl) _ _ (by rfl) (fun _ h => h) _ _ (by rfl) _ _ (by assumption) Try.underlying40 rfl (by kernel_rfl) ?_; (try simp only [Act.put, List.setIfInBounds_toArray, List.set_cons_zero, List.set_cons_succ])) | (refine Cmp.q_eqmv (by rfl) _ _ _ (by rfl) _ _ (by rfl) (by rfl) _ (by assumption) ?_; (try simp only [Act.put, List.setIfInBounds_toArray, List.set_cons_zero, List.set_cons_succ])) | (refine q_load_fld (by rfl) _ _ (by rfl) (fun _ h => h) _ _ (by rfl) ?_ ?_ ?_ ?_ ?_ ?_; rotate_left; (next => (repeat (first | (with_reducible refine BlkAt.new _ _ _ _ ?_; ((try simp) <;> omega)) | (with_reducible assumption) | (with_reducible refine Blk.at (t := ?_) ?_; rotate_left; with_reducible assumption) | with_reducible refine BlkAt.alloc ?_ _ | with_reducible refine BlkAt.drew ?_ | (with_reducible refine BlkAt.setSame ?_ _ _) | (with_reducible refine BlkAt.setCell ?_ ?_ _; rotate_left; ((try simp) <;> omega)) | (with_reducible refine BlkAt.ext (w := ?_) ?_ ?_; rotate_left 2; (with_reducible assumption)) | fail))); rotate_left; (next => first | (simp only [go_sem]; rfl) | rfl); (next => kernel_rfl); (try simp only [Act.put, List.setIfInBounds_toArray, List.set_cons_zero, List.set_cons_succ])) | (refine q_rem (by rfl) _ _ _ _ (by rfl) _ _ (by rfl) (by rfl) (by kernel_rfl) (by kernel_rfl) ?_ ?_; (next => omega); (try simp only [Act.put, List.setIfInBounds_toArray, List.set_cons_zero, List.set_cons_succ])) | (refine q_step_ex (by rfl) ?_; apply Exists.intro; refine ⟨fun W hW => ?_, ?_⟩; (next => (have hWc := fun (b o : Nat) (h : b < _) => (Ext.out hW).cell (p := ⟨b, o, none⟩) h); (try have hLK := HLK.out W (Ext.out hW)); go_simp; first | rfl | fail | fail); (try simp only [Act.put, List.setIfInBounds_toArray, List.set_cons_zero, List.set_cons_succ])) | fail)
              refine wpQuiet_nil ?_
              intro w6 hb6
              have l6 := l.ext hb6
              have d0 := l6.cOut (Nat.zero_le _) hxn
              have d1 := l6.cOut (Nat.zero_le _) hi1n
              have m6 := l6.lt
              have m1 := l6.ltRow (Nat.zero_le _) hxn
              have m2 := l6.ltRow (Nat.zero_le _) hi1n
              have d2 := l6.cVal hp (Nat.zero_le _) hi1n hyn
              have d3 := l6.cVal hq (Nat.zero_le _) hxn hk1n
              go_wp2_with fail
              refine wp_region_below_lit (by kernel_rfl) (by kernel_rfl) ?_
              repeat (first | go_big_quiet_skip | (go_big_quiet_want; go_big_quiet_op; go_big_quiet_on) | (refine q_load_fld (by rfl) _ _ (by rfl) (fun _ h => h) _ _ (by rfl) ?_ ?_ ?_ ?_ ?_ ?_; rotate_left; (next => (repeat (first | (with_reducible refine BlkAt.new _ _ _ _ ?_; ((try simp) <;> omega)) | (with_reducible assumption) | (with_reducible refine Blk.at (t := ?_) ?_; rotate_left; with_reducible assumption) | with_reducible refine BlkAt.alloc ?_ _ | with_reducible refine BlkAt.drew ?_ | (with_reducible refine BlkAt.setSame ?_ _ _) | (with_reducible refine BlkAt.setCell ?_ ?_ _; rotate_left; ((try simp) <;> omega)) | (with_reducible refine BlkAt.ext (w := ?_) ?_ ?_; rotate_left 2; (with_reducible assumption)) | fail))); rotate_left; (next => first | (simp only [go_sem]; rfl) | rfl); (next => kernel_rfl); (try simp only [Act.put, List.setIfInBounds_toArray, List.set_cons_zero, List.set_cons_succ])) | (refine q_rem (by rfl) _ _ _ _ (by rfl) _ _ (by rfl) (by rfl) (by kernel_rfl) (by kernel_rfl) ?_ ?_; (next => omega); (try simp only [Act.put, List.setIfInBounds_toArray, List.set_cons_zero, List.set_cons_succ])) | (refine q_step_ex (by rfl) ?_; apply Exists.intro; refine ⟨fun W hW => ?_, ?_⟩; (next => (have hWc := fun (b o : Nat) (h : b < _) => (Ext.out hW).cell (p := ⟨b, o, none⟩) h); (try have hLK := HLK.out W (Ext.out hW)); go_simp; first | rfl | fail | fail); (try simp only [Act.put, List.setIfInBounds_toArray, List.set_cons_zero, List.set_cons_succ])) | fail)
              refine wpQuiet_nil ?_
              intro w7 hb7
              have hb07 := below_ext hb6 hb7
              have hown7 := owns_ext hown hb07
              go_wp2_with (first | (refine wpList_build1 (by rfl) 26 33 _ (by rfl) (.agg #[.int .i64 0, .int .i64 0, .int .i64 0]) 3 Try.underlying26 (by kernel_rfl) ⟨by decide, by decide⟩ (.agg #[.int .i64 2, .int .i64 x, .int .i64 y]) (by rfl) #[.int .i64 2, .int .i64 x, .int .i64 y] (by kernel_rfl) ?_; intro w8 hB8 hb8 hz8'; have hz8 := Lib.hid hz8'; clear hz8'; have hown8 := owns_ext hown7 hb8) | (refine wpList_append_rd (by rfl) _ _ _ (by rfl) w1.heap.size 33 (.agg #[.int .i64 0, .int .i64 0, .int .i64 0]) 3 24 Try.underlying26 (by kernel_rfl) ⟨rfl, by decide⟩ _ acc.length _ (by rfl) hown8 (some ⟨w7.heap.size, 0, none⟩) 1 1 [[.int .i64 2, .int .i64 x, .int .i64 y]] (by rfl) ?_ ⟨rfl, by simp [Value.oneCell']⟩ (by simp) ?_ ?_ ?_; (next => exact rd_own hB8 (by simp) (n := 1) (by simp)); (next => unfold maxLen; omega); (next => have h1 := hz8.out; have h2 := hb07.size; omega); intro v9 w9 hown9 hb9 hz9 hk9; have hb19 := (hb.trans ((below_ext hb07 hb8).mono hb.size)).trans hb9) | fail)
              obtain rfl := hi1e.out
              obtain rfl := hk1e.out
              go_roundw
              case rel => exact ⟨x, (y + 1), f, _, _, rfl, by go_num, by go_num, by omega, by omega, by omega, hacc3, by rw [List.length_append, flatE_app]; exact hown9, hb19⟩
              case measure => simp [intOf]; omega
          · have ho := op_eq hxl hyl e
            rw [ho] at hacc2
            have hacc3 : Hid ((acc ++ [⟨(0 : Nat), x, y⟩]) ++ ed a b f (x + 1) (y + 1) = edits a b) := Lib.hid (by rw [← hacc2, List.append_assoc]; simp [edAt, ho])
            clear hacc2 ho hend
            replace e := Lib.hid e
            generalize a[x] = X at *
            generalize b[y] = Y at *
            go_wp2_with fail
            refine wp_region_below_lit (by kernel_rfl) (by kernel_rfl) ?_
            repeat (first | go_big_quiet_skip | (go_big_quiet_want; go_big_quiet_op; go_big_quiet_on) | (refine q_load_mid (by rfl) _ _ (by rfl) (fun _ h => h) _ _ (by rfl) _ _ (by assumption) Try.underlying40 rfl (by kernel_rfl) ?_; (try simp only [Act.put, List.setIfInBounds_toArray, List.set_cons_zero, List.set_cons_succ])) | (refine Cmp.q_eqmv (by rfl) _ _ _ (by rfl) _ _ (by rfl) (by rfl) _ (by assumption) ?_; (try simp only [Act.put, List.setIfInBounds_toArray, List.set_cons_zero, List.set_cons_succ])) | (refine q_load_fld (by rfl) _ _ (by rfl) (fun _ h => h) _ _ (by rfl) ?_ ?_ ?_ ?_ ?_ ?_; rotate_left; (next => (repeat (first | (with_reducible refine BlkAt.new _ _ _ _ ?_; ((try simp) <;> omega)) | (with_reducible assumption) | (with_reducible refine Blk.at (t := ?_) ?_; rotate_left; with_reducible assumption) | with_reducible refine BlkAt.alloc ?_ _ | with_reducible refine BlkAt.drew ?_ | (with_reducible refine BlkAt.setSame ?_ _ _) | (with_reducible refine BlkAt.setCell ?_ ?_ _; rotate_left; ((try simp) <;> omega)) | (with_reducible refine BlkAt.ext (w := ?_) ?_ ?_; rotate_left 2; (with_reducible assumption)) | fail))); rotate_left; (next => first | (simp only [go_sem]; rfl) | rfl); (next => kernel_rfl); (try simp only [Act.put, List.setIfInBounds_toArray, List.set_cons_zero, List.set_cons_succ])) | (refine q_rem (by rfl) _ _ _ _ (by rfl) _ _ (by rfl) (by rfl) (by kernel_rfl) (by kernel_rfl) ?_ ?_; (next => omega); (try simp only [Act.put, List.setIfInBounds_toArray, List.set_cons_zero, List.set_cons_succ])) | (refine q_step_ex (by rfl) ?_; apply Exists.intro; refine ⟨fun W hW => ?_, ?_⟩; (next => (have hWc := fun (b o : Nat) (h : b < _) => (Ext.out hW).cell (p := ⟨b, o, none⟩) h); (try have hLK := HLK.out W (Ext.out hW)); go_simp; first | rfl | fail | fail); (try simp only [Act.put, List.setIfInBounds_toArray, List.set_cons_zero, List.set_cons_succ])) | fail)
            refine wpQuiet_nil ?_
            intro w7 hb7
            have hb07 := hb7
            have hown7 := owns_ext hown hb07
            go_wp2_with (first | (refine wpList_build1 (by rfl) 26 33 _ (by rfl) (.agg #[.int .i64 0, .int .i64 0, .int .i64 0]) 3 Try.underlying26 (by kernel_rfl) ⟨by decide, by decide⟩ (.agg #[.int .i64 0, .int .i64 x, .int .i64 y]) (by rfl) #[.int .i64 0, .int .i64 x, .int .i64 y] (by kernel_rfl) ?_; intro w8 hB8 hb8 hz8'; have hz8 := Lib.hid hz8'; clear hz8'; have hown8 := owns_ext hown7 hb8) | (refine wpList_append_rd (by rfl) _ _ _ (by rfl) w1.heap.size 33 (.agg #[.int .i64 0, .int .i64 0, .int .i64 0]) 3 24 Try.underlying26 (by kernel_rfl) ⟨rfl, by decide⟩ _ acc.length _ (by rfl) hown8 (some ⟨w7.heap.size, 0, none⟩) 1 1 [[.int .i64 0, .int .i64 x, .int .i64 y]] (by rfl) ?_ ⟨rfl, by simp [Value.oneCell']⟩ (by simp) ?_ ?_ ?_; (next => exact rd_own hB8 (by simp) (n := 1) (by simp)); (next => unfold maxLen; omega); (next => have h1 := hz8.out; have h2 := hb07.size; omega); intro v9 w9 hown9 hb9 hz9 hk9; have hb19 := (hb.trans ((below_ext hb07 hb8).mono hb.size)).trans hb9) | fail)
            go_roundw
            case rel => exact ⟨(x + 1), (y + 1), f, _, _, rfl, by go_num, by go_num, by omega, by omega, by omega, hacc3, by rw [List.length_append, flatE_app]; exact hown9, hb19⟩
            case measure => simp [intOf]; omega
        · have hye : y = b.length := by omega
          have ho := op_kend (a := a) (i := x) hye
          rw [ho] at hacc2
          have hacc3 : Hid ((acc ++ [⟨(1 : Nat), x, y⟩]) ++ ed a b f (x + 1) y = edits a b) := Lib.hid (by rw [← hacc2, List.append_assoc]; simp [edAt, ho])
          clear hacc2 ho hend
          have hi2 : (x : Int) < (a.length : Int) := by omega
          subst hye
          clear hyl
          go_wp2_with fail
          refine wp_region_below_lit (by kernel_rfl) (by kernel_rfl) ?_
          repeat (first | go_big_quiet_skip | (go_big_quiet_want; go_big_quiet_op; go_big_quiet_on) | (refine q_load_fld (by rfl) _ _ (by rfl) (fun _ h => h) _ _ (by rfl) ?_ ?_ ?_ ?_ ?_ ?_; rotate_left; (next => (repeat (first | (with_reducible refine BlkAt.new _ _ _ _ ?_; ((try simp) <;> omega)) | (with_reducible assumption) | (with_reducible refine Blk.at (t := ?_) ?_; rotate_left; with_reducible assumption) | with_reducible refine BlkAt.alloc ?_ _ | with_reducible refine BlkAt.drew ?_ | (with_reducible refine BlkAt.setSame ?_ _ _) | (with_reducible refine BlkAt.setCell ?_ ?_ _; rotate_left; ((try simp) <;> omega)) | (with_reducible refine BlkAt.ext (w := ?_) ?_ ?_; rotate_left 2; (with_reducible assumption)) | fail))); rotate_left; (next => first | (simp only [go_sem]; rfl) | rfl); (next => kernel_rfl); (try simp only [Act.put, List.setIfInBounds_toArray, List.set_cons_zero, List.set_cons_succ])) | (refine q_rem (by rfl) _ _ _ _ (by rfl) _ _ (by rfl) (by rfl) (by kernel_rfl) (by kernel_rfl) ?_ ?_; (next => omega); (try simp only [Act.put, List.setIfInBounds_toArray, List.set_cons_zero, List.set_cons_succ])) | (refine q_step_ex (by rfl) ?_; apply Exists.intro; refine ⟨fun W hW => ?_, ?_⟩; (next => (have hWc := fun (b o : Nat) (h : b < _) => (Ext.out hW).cell (p := ⟨b, o, none⟩) h); (try have hLK := HLK.out W (Ext.out hW)); go_simp; first | rfl | fail | fail); (try simp only [Act.put, List.setIfInBounds_toArray, List.set_cons_zero, List.set_cons_succ])) | fail)
          refine wpQuiet_nil ?_
          intro w6 hb6
          go_wp2_with fail
          refine wp_region_below_lit (by kernel_rfl) (by kernel_rfl) ?_
          repeat (first | go_big_quiet_skip | (go_big_quiet_want; go_big_quiet_op; go_big_quiet_on) | (refine q_load_fld (by rfl) _ _ (by rfl) (fun _ h => h) _ _ (by rfl) ?_ ?_ ?_ ?_ ?_ ?_; rotate_left; (next => (repeat (first | (with_reducible refine BlkAt.new _ _ _ _ ?_; ((try simp) <;> omega)) | (with_reducible assumption) | (with_reducible refine Blk.at (t := ?_) ?_; rotate_left; with_reducible assumption) | with_reducible refine BlkAt.alloc ?_ _ | with_reducible refine BlkAt.drew ?_ | (with_reducible refine BlkAt.setSame ?_ _ _) | (with_reducible refine BlkAt.setCell ?_ ?_ _; rotate_left; ((try simp) <;> omega)) | (with_reducible refine BlkAt.ext (w := ?_) ?_ ?_; rotate_left 2; (with_reducible assumption)) | fail))); rotate_left; (next => first | (simp only [go_sem]; rfl) | rfl); (next => kernel_rfl); (try simp only [Act.put, List.setIfInBounds_toArray, List.set_cons_zero, List.set_cons_succ])) | (refine q_rem (by rfl) _ _ _ _ (by rfl) _ _ (by rfl) (by rfl) (by kernel_rfl) (by kernel_rfl) ?_ ?_; (next => omega); (try simp only [Act.put, List.setIfInBounds_toArray, List.set_cons_zero, List.set_cons_succ])) | (refine q_step_ex (by rfl) ?_; apply Exists.intro; refine ⟨fun W hW => ?_, ?_⟩; (next => (have hWc := fun (b o : Nat) (h : b < _) => (Ext.out hW).cell (p := ⟨b, o, none⟩) h); (try have hLK := HLK.out W (Ext.out hW)); go_simp; first | rfl | fail | fail); (try simp only [Act.put, List.setIfInBounds_toArray, List.set_cons_zero, List.set_cons_succ])) | fail)
          refine wpQuiet_nil ?_
          intro w7 hb7
          have hb07 := below_ext hb6 hb7
          have hown7 := owns_ext hown hb07
          go_wp2_with (first | (refine wpList_build1 (by rfl) 26 33 _ (by rfl) (.agg #[.int .i64 0, .int .i64 0, .int .i64 0]) 3 Try.underlying26 (by kernel_rfl) ⟨by decide, by decide⟩ (.agg #[.int .i64 1, .int .i64 x, .int .i64 b.length]) (by rfl) #[.int .i64 1, .int .i64 x, .int .i64 b.length] (by kernel_rfl) ?_; intro w8 hB8 hb8 hz8'; have hz8 := Lib.hid hz8'; clear hz8'; have hown8 := owns_ext hown7 hb8) | (refine wpList_append_rd (by rfl) _ _ _ (by rfl) w1.heap.size 33 (.agg #[.int .i64 0, .int .i64 0, .int .i64 0]) 3 24 Try.underlying26 (by kernel_rfl) ⟨rfl, by decide⟩ _ acc.length _ (by rfl) hown8 (some ⟨w7.heap.size, 0, none⟩) 1 1 [[.int .i64 1, .int .i64 x, .int .i64 b.length]] (by rfl) ?_ ⟨rfl, by simp [Value.oneCell']⟩ (by simp) ?_ ?_ ?_; (next => exact rd_own hB8 (by simp) (n := 1) (by simp)); (next => unfold maxLen; omega); (next => have h1 := hz8.out; have h2 := hb07.size; omega); intro v9 w9 hown9 hb9 hz9 hk9; have hb19 := (hb.trans ((below_ext hb07 hb8).mono hb.size)).trans hb9) | fail)
          go_roundw
          case rel => exact ⟨(x + 1), b.length, f, _, _, rfl, by go_num, by go_num, by omega, by omega, by omega, hacc3, by rw [List.length_append, flatE_app]; exact hown9, hb19⟩
          case measure => simp [intOf]; omega
      · have hxe : x = a.length := by omega
        have hyl : y < b.length := by omega
        have ho := op_iend hxe hyl
        rw [ho] at hacc2
        have hacc3 : Hid ((acc ++ [⟨(2 : Nat), x, y⟩]) ++ ed a b f x (y + 1) = edits a b) := Lib.hid (by rw [← hacc2, List.append_assoc]; simp [edAt, ho])
        clear hacc2 ho hend
        have hk1 : (y : Int) < (b.length : Int) := by omega
        have e2 : ¬ (y : Int) = (b.length : Int) := by omega
        have e4 : ((y : Int) == (b.length : Int)) = false := by simpa using e2
        subst hxe
        clear hxl
        go_wp2_with fail
        refine wp_region_below_lit (by kernel_rfl) (by kernel_rfl) ?_
        repeat (first | go_big_quiet_skip | (go_big_quiet_want; go_big_quiet_op; go_big_quiet_on) | (refine q_load_fld (by rfl) _ _ (by rfl) (fun _ h => h) _ _ (by rfl) ?_ ?_ ?_ ?_ ?_ ?_; rotate_left; (next => (repeat (first | (with_reducible refine BlkAt.new _ _ _ _ ?_; ((try simp) <;> omega)) | (with_reducible assumption) | (with_reducible refine Blk.at (t := ?_) ?_; rotate_left; with_reducible assumption) | with_reducible refine BlkAt.alloc ?_ _ | with_reducible refine BlkAt.drew ?_ | (with_reducible refine BlkAt.setSame ?_ _ _) | (with_reducible refine BlkAt.setCell ?_ ?_ _; rotate_left; ((try simp) <;> omega)) | (with_reducible refine BlkAt.ext (w := ?_) ?_ ?_; rotate_left 2; (with_reducible assumption)) | fail))); rotate_left; (next => first | (simp only [go_sem]; rfl) | rfl); (next => kernel_rfl); (try simp only [Act.put, List.setIfInBounds_toArray, List.set_cons_zero, List.set_cons_succ])) | (refine q_rem (by rfl) _ _ _ _ (by rfl) _ _ (by rfl) (by rfl) (by kernel_rfl) (by kernel_rfl) ?_ ?_; (next => omega); (try simp only [Act.put, List.setIfInBounds_toArray, List.set_cons_zero, List.set_cons_succ])) | (refine q_step_ex (by rfl) ?_; apply Exists.intro; refine ⟨fun W hW => ?_, ?_⟩; (next => (have hWc := fun (b o : Nat) (h : b < _) => (Ext.out hW).cell (p := ⟨b, o, none⟩) h); (try have hLK := HLK.out W (Ext.out hW)); go_simp; first | rfl | fail | fail); (try simp only [Act.put, List.setIfInBounds_toArray, List.set_cons_zero, List.set_cons_succ])) | fail)
        refine wpQuiet_nil ?_
        intro w6 hb6
        go_wp2_with fail
        refine wp_region_below_lit (by kernel_rfl) (by kernel_rfl) ?_
        repeat (first | go_big_quiet_skip | (go_big_quiet_want; go_big_quiet_op; go_big_quiet_on) | (refine q_load_fld (by rfl) _ _ (by rfl) (fun _ h => h) _ _ (by rfl) ?_ ?_ ?_ ?_ ?_ ?_; rotate_left; (next => (repeat (first | (with_reducible refine BlkAt.new _ _ _ _ ?_; ((try simp) <;> omega)) | (with_reducible assumption) | (with_reducible refine Blk.at (t := ?_) ?_; rotate_left; with_reducible assumption) | with_reducible refine BlkAt.alloc ?_ _ | with_reducible refine BlkAt.drew ?_ | (with_reducible refine BlkAt.setSame ?_ _ _) | (with_reducible refine BlkAt.setCell ?_ ?_ _; rotate_left; ((try simp) <;> omega)) | (with_reducible refine BlkAt.ext (w := ?_) ?_ ?_; rotate_left 2; (with_reducible assumption)) | fail))); rotate_left; (next => first | (simp only [go_sem]; rfl) | rfl); (next => kernel_rfl); (try simp only [Act.put, List.setIfInBounds_toArray, List.set_cons_zero, List.set_cons_succ])) | (refine q_rem (by rfl) _ _ _ _ (by rfl) _ _ (by rfl) (by rfl) (by kernel_rfl) (by kernel_rfl) ?_ ?_; (next => omega); (try simp only [Act.put, List.setIfInBounds_toArray, List.set_cons_zero, List.set_cons_succ])) | (refine q_step_ex (by rfl) ?_; apply Exists.intro; refine ⟨fun W hW => ?_, ?_⟩; (next => (have hWc := fun (b o : Nat) (h : b < _) => (Ext.out hW).cell (p := ⟨b, o, none⟩) h); (try have hLK := HLK.out W (Ext.out hW)); go_simp; first | rfl | fail | fail); (try simp only [Act.put, List.setIfInBounds_toArray, List.set_cons_zero, List.set_cons_succ])) | fail)
        refine wpQuiet_nil ?_
        intro w7 hb7
        have hb07 := below_ext hb6 hb7
        have hown7 := owns_ext hown hb07
        go_wp2_with (first | (refine wpList_build1 (by rfl) 26 33 _ (by rfl) (.agg #[.int .i64 0, .int .i64 0, .int .i64 0]) 3 Try.underlying26 (by kernel_rfl) ⟨by decide, by decide⟩ (.agg #[.int .i64 2, .int .i64 a.length, .int .i64 y]) (by rfl) #[.int .i64 2, .int .i64 a.length, .int .i64 y] (by kernel_rfl) ?_; intro w8 hB8 hb8 hz8'; have hz8 := Lib.hid hz8'; clear hz8'; have hown8 := owns_ext hown7 hb8) | (refine wpList_append_rd (by rfl) _ _ _ (by rfl) w1.heap.size 33 (.agg #[.int .i64 0, .int .i64 0, .int .i64 0]) 3 24 Try.underlying26 (by kernel_rfl) ⟨rfl, by decide⟩ _ acc.length _ (by rfl) hown8 (some ⟨w7.heap.size, 0, none⟩) 1 1 [[.int .i64 2, .int .i64 a.length, .int .i64 y]] (by rfl) ?_ ⟨rfl, by simp [Value.oneCell']⟩ (by simp) ?_ ?_ ?_; (next => exact rd_own hB8 (by simp) (n := 1) (by simp)); (next => unfold maxLen; omega); (next => have h1 := hz8.out; have h2 := hb07.size; omega); intro v9 w9 hown9 hb9 hz9 hk9; have hb19 := (hb.trans ((below_ext hb07 hb8).mono hb.size)).trans hb9) | fail)
        go_roundw
        case rel => exact ⟨a.length, (y + 1), f, _, _, rfl, by go_num, by go_num, by omega, by omega, by omega, hacc3, by rw [List.length_append, flatE_app]; exact hown9, hb19⟩
        case measure => simp [intOf]; omega
end
end Cmp
end Go.Proofs.Ytpopfjfmppmjdaa
