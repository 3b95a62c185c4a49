/- This text proves contracts of a held ladder: Fits, Find, and Worth up to any limit. It has no conditions but those that it states. -/
import Derived.Test.YtdhbioaoholcbaaLadW
import Derived.Test.YtdhbioaoholcbaaLadA
namespace Go.Proofs.Ytdhbioaoholcbaa
set_option linter.unusedVariables false
open Go.RowKit
namespace Lad
set_option maxHeartbeats 2000000
set_option maxRecDepth 10000
attribute [local go_sem] Oper.semAt_some
section
variable {w : World} {g : Nat} {side most : Int} {v : Value} {ls : List Lvl} {u : Nat → Nat}
theorem key_one {a b : Int} (ha : I64 a) (hb : I64 b) (h : keyF side a = keyF side b) : a = b := by
  unfold keyF at h
  unfold I64 at ha hb
  split at h
  · unfold wrap64 at h
    omega
  · exact h
def anyP (p : Int) (ls : List Lvl) : Bool := ls.any fun l => decide (l.price = p)
theorem any_stands (hr : ∀ l ∈ ls, 1 ≤ l.price ∧ l.price ≤ 9223372036854775807) (hup : Up side ls) {p : Int} (hp : I64 p) {i : Nat} (hst : Stands (keys side ls) ls.length (keyF side p) i) :
    decide (i < ls.length ∧ keys side ls i = keyF side p) = anyP p ls := by
  by_cases h : i < ls.length ∧ keys side ls i = keyF side p
  · rw [decide_eq_true h]
    obtain ⟨h1, h2⟩ := h
    rw [keys_at h1] at h2
    have hm := List.getElem_mem h1
    have hx := hr _ hm
    have h3 := key_one (show I64 ls[i].price from ⟨by omega, by omega⟩) hp h2
    symm
    unfold anyP
    rw [List.any_eq_true]
    exact ⟨_, hm, by simpa using h3⟩
  · rw [decide_eq_false h]
    symm
    unfold anyP
    rw [List.any_eq_false]
    intro y hy e
    simp only [decide_eq_true_eq] at e
    obtain ⟨j, hj, rfl⟩ := List.mem_iff_getElem.1 hy
    have k1 := keys_at (side := side) hj
    rw [e] at k1
    rcases Nat.lt_or_ge j i with h4 | h4
    · have := hst.lo j h4
      omega
    · rcases Nat.lt_or_ge i j with h2 | h2
      · have h3 := hup i j h2 hj
        have h4 := hst.hi i (Nat.le_refl _) (by omega)
        omega
      · have : i = j := by omega
        subst this
        exact h ⟨hj, k1⟩
theorem fits_any (L : La w g side most v ls u) (hup : Up side ls) (p : Int) (hp : I64 p) :
    Calls Try.prog 57 #[.pointer (some ⟨g, 0, none⟩), .int .i64 p] w fun e w' => e = .returned (.bool (anyP p ls || decide ((ls.length : Int) < most))) ∧ Below w.heap.size w w' := by
  obtain ⟨i, hst⟩ := stands_ex (kf := keys side ls) (k := keyF side p) ls.length hup
  have hPl := Lib.hid (place_any L hup p hp hst)
  rw [any_stands (fun l hl => L.rng l hl) hup hp hst] at hPl
  obtain ⟨A, cap, rfl, _, _⟩ := L.rd
  have hL := Lib.hid L
  have hgl := L.hd.lt
  clear L hst hup
  generalize anyP p ls = f at *
  generalize ls.length = n at *
  cases f with
  | true =>
    go_enter Try.func57, Try.ntmps57
    go_wp2_with (first | (go_at_call 60; refine hPl.out.mono ?_; rintro e w1 ⟨rfl, hb1⟩) | fail)
    refine wp_region_below_lit (by kernel_rfl) (by kernel_rfl) ?_
    repeat (first | go_big_quiet_skip | (go_big_quiet_want; go_big_quiet_op; go_big_quiet_on) | (refine q_load_fld (by rfl) _ _ (by rfl) (fun _ h => h) _ _ (by rfl) ?_ ?_ ?_ ?_ ?_ ?_; rotate_left; (next => (repeat (first | (with_reducible refine BlkAt.new _ _ _ _ ?_; ((try simp) <;> omega)) | (with_reducible assumption) | (with_reducible refine Blk.at (t := ?_) ?_; rotate_left; with_reducible assumption) | with_reducible refine BlkAt.alloc ?_ _ | with_reducible refine BlkAt.drew ?_ | (with_reducible refine BlkAt.setSame ?_ _ _) | (with_reducible refine BlkAt.setCell ?_ ?_ _; rotate_left; ((try simp) <;> omega)) | (with_reducible refine BlkAt.ext (w := ?_) ?_ ?_; rotate_left 2; (with_reducible assumption)) | fail))); rotate_left; (next => first | (simp only [go_sem]; rfl) | rfl); (next => kernel_rfl); (try simp only [Act.put, List.setIfInBounds_toArray, List.set_cons_zero, List.set_cons_succ])) | (refine q_rem (by rfl) _ _ _ _ (by rfl) _ _ (by rfl) (by rfl) (by kernel_rfl) (by kernel_rfl) ?_ ?_; (next => omega); (try simp only [Act.put, List.setIfInBounds_toArray, List.set_cons_zero, List.set_cons_succ])) | (refine q_step_ex (by rfl) ?_; apply Exists.intro; refine ⟨fun W hW => ?_, ?_⟩; (next => (have hWc := fun (b o : Nat) (h : b < _) => (Ext.out hW).cell (p := ⟨b, o, none⟩) h); (try have hLK := HLK.out W (Ext.out hW)); go_simp; first | rfl | fail | fail); (try simp only [Act.put, List.setIfInBounds_toArray, List.set_cons_zero, List.set_cons_succ])) | fail)
    refine wpQuiet_nil ?_
    intro w2 hb2
    go_wp2_with fail
    go_ret
    exact ⟨rfl, below_ext hb1 hb2⟩
  | false =>
    go_enter Try.func57, Try.ntmps57
    go_wp2_with (first | (go_at_call 60; refine hPl.out.mono ?_; rintro e w1 ⟨rfl, hb1⟩) | fail)
    have c1 : w1.cell? ⟨g, 1, none⟩ = some (.int .i64 most) := (hL.out.ext hb1).hd.cell 1
    have c2 : w1.cell? ⟨g, 2, none⟩ = some (.slice A n cap) := (hL.out.ext hb1).hd.cell 2
    have hg1 := (hL.out.ext hb1).hd.lt
    refine wp_region_below_lit (by kernel_rfl) (by kernel_rfl) ?_
    repeat (first | go_big_quiet_skip | (go_big_quiet_want; go_big_quiet_op; go_big_quiet_on) | (refine q_load_fld (by rfl) _ _ (by rfl) (fun _ h => h) _ _ (by rfl) ?_ ?_ ?_ ?_ ?_ ?_; rotate_left; (next => (repeat (first | (with_reducible refine BlkAt.new _ _ _ _ ?_; ((try simp) <;> omega)) | (with_reducible assumption) | (with_reducible refine Blk.at (t := ?_) ?_; rotate_left; with_reducible assumption) | with_reducible refine BlkAt.alloc ?_ _ | with_reducible refine BlkAt.drew ?_ | (with_reducible refine BlkAt.setSame ?_ _ _) | (with_reducible refine BlkAt.setCell ?_ ?_ _; rotate_left; ((try simp) <;> omega)) | (with_reducible refine BlkAt.ext (w := ?_) ?_ ?_; rotate_left 2; (with_reducible assumption)) | fail))); rotate_left; (next => first | (simp only [go_sem]; rfl) | rfl); (next => kernel_rfl); (try simp only [Act.put, List.setIfInBounds_toArray, List.set_cons_zero, List.set_cons_succ])) | (refine q_rem (by rfl) _ _ _ _ (by rfl) _ _ (by rfl) (by rfl) (by kernel_rfl) (by kernel_rfl) ?_ ?_; (next => omega); (try simp only [Act.put, List.setIfInBounds_toArray, List.set_cons_zero, List.set_cons_succ])) | (refine q_step_ex (by rfl) ?_; apply Exists.intro; refine ⟨fun W hW => ?_, ?_⟩; (next => (have hWc := fun (b o : Nat) (h : b < _) => (Ext.out hW).cell (p := ⟨b, o, none⟩) h); (try have hLK := HLK.out W (Ext.out hW)); go_simp; first | rfl | fail | fail); (try simp only [Act.put, List.setIfInBounds_toArray, List.set_cons_zero, List.set_cons_succ])) | fail)
    refine wpQuiet_nil ?_
    intro w2 hb2
    go_wp2_with fail
    go_ret
    exact ⟨by simp, below_ext hb1 hb2⟩
def fndP (p : Int) (ls : List Lvl) : Lvl := (ls.find? fun l => decide (l.price = p)).getD ⟨0, 0, 0, 0⟩
theorem find_any (L : La w g side most v ls u) (hup : Up side ls) (p : Int) (hp : I64 p) :
    Calls Try.prog 54 #[.pointer (some ⟨g, 0, none⟩), .int .i64 p] w fun e w' => e = .returned (.tuple #[.agg (fndP p ls).arr, .bool (anyP p ls)]) ∧ Below w.heap.size w w' := by
  obtain ⟨i, hst⟩ := stands_ex (kf := keys side ls) (k := keyF side p) ls.length hup
  have hN := Blk.new w 88 lvlZ _ rfl
  have hb0 : Below w.heap.size w (w.alloc (.cells lvlZ 88)) := by (repeat (first | with_reducible exact Below.refl _ _ | (with_reducible assumption) | (with_reducible refine below_alloc ?_ _) | (with_reducible refine below_ext (w1 := ?_) ?_ ?_; rotate_left 2; (with_reducible assumption)) | (with_reducible refine Below.setCell ?_ ?_ _; rotate_left; ((try simp) <;> omega)) | (with_reducible refine Below.drew ?_) | (with_reducible refine below_drewN ?_ _) | fail))
  have L1 := L.ext hb0
  have hPl := Lib.hid (place_any L1 hup p hp hst)
  have hgl := L.hd.lt
  obtain ⟨A, cap, rfl, hrd, _⟩ := L1.rd
  by_cases hf : i < ls.length ∧ keys side ls i = keyF side p
  · have hany := any_stands (fun l hl => L.rng l hl) hup hp hst
    have hpi : ls[i].price = p := by
      obtain ⟨h1, h2⟩ := hf
      rw [keys_at h1] at h2
      have hx := L.rng _ (List.getElem_mem h1)
      exact key_one (side := side) ⟨by omega, by omega⟩ hp h2
    have hfd : fndP p ls = ls[i]'hf.1 := by
      unfold fndP
      cases he : ls.find? fun l => decide (l.price = p) with
      | none =>
        have := List.find?_eq_none.1 he _ (List.getElem_mem hf.1)
        simp [hpi] at this
      | some y =>
        have h1 := List.find?_some he
        simp only [decide_eq_true_eq] at h1
        obtain ⟨j, hj, rfl⟩ := List.mem_iff_getElem.1 (List.mem_of_find?_eq_some he)
        have h2 : keys side ls j = keys side ls i := by rw [keys_at hj, keys_at hf.1, h1, hpi]
        rcases Nat.lt_or_ge j i with h | h
        · have := hup j i h hf.1; omega
        · rcases Nat.lt_or_ge i j with h3 | h3
          · have := hup i j h3 hj; omega
          · have : i = j := by omega
            subst this
            rfl
    rw [decide_eq_true hf] at hPl hany
    rw [← hany, hfd]
    obtain ⟨b, o, rfl, hr, hbl⟩ := rd_lvl hrd hf.1
    have hl1 : (i : Int) < (ls.length : Int) := by omega
    have hL1 := Lib.hid L1
    have hlen := L.len
    obtain ⟨x, hxe⟩ : ∃ x, x = ls[i]'hf.1 := ⟨_, rfl⟩
    rw [← hxe] at hr ⊢
    clear L1 L hany hfd hst hup hpi hrd hxe
    clear hf
    go_enter Try.func54, Try.ntmps54
    go_wp2_with (first | (go_at_call 60; refine hPl.out.mono ?_; rintro e w1 ⟨rfl, hb1⟩; (have c2 : w1.cell? ⟨g, 2, none⟩ = some (.slice (some ⟨b, o, none⟩) ls.length cap) := (hL1.out.ext hb1).hd.cell 2); (have hr1 : w1.rangeAt b (o + i * 4) x.cells := fun j v hv => (hb1.cell (cell_lt (hr j v hv))).trans (hr j v hv)); have hN1 := hN.ext hb1; clear hN hr) | (refine wpList_load_mid (by rfl) _ _ (by rfl) _ _ (by rfl) _ _ hr1 Try.underlying88 rfl (by kernel_rfl) ?_) | ((with_reducible show wpList _ _ _ (⟨_, .store 88 _ _, _, _, _, _⟩ :: _) _ _); refine wpList_store_blk (by rfl) 88 _ _ (by rfl) _ _ (by rfl) (by rfl) _ _ hN1 (by kernel_rfl) (by rfl) ?_ ?_; (next => simp [Value.oneCell', Lvl.arr, Lvl.cells]); intro w2 hN2 hU2) | fail)
    have hN3 : Blk w2 w.heap.size 88 x.arr := hN2
    exact bodyPost_ret (results_lvl rfl _ _ _ _ _ (by rfl) (by rfl) hN3 rfl) rfl ⟨rfl, below_upd (below_ext hb0 hb1) (Nat.le_refl _) hU2⟩
  · have hany := any_stands (fun l hl => L.rng l hl) hup hp hst
    rw [decide_eq_false hf] at hPl hany
    have hfd : fndP p ls = ⟨0, 0, 0, 0⟩ := by
      unfold fndP
      have : (ls.find? fun l => decide (l.price = p)) = none := by
        rw [List.find?_eq_none]
        unfold anyP at hany
        exact fun y hy => by simpa using List.any_eq_false.1 hany.symm y hy
      rw [this]
      rfl
    rw [← hany, hfd]
    clear L1 L hany hfd hst hup hf hrd
    go_enter Try.func54, Try.ntmps54
    go_wp2_with (first | (go_at_call 60; refine hPl.out.mono ?_; rintro e w1 ⟨rfl, hb1⟩; have hN1 := hN.ext hb1; clear hN) | ((with_reducible show wpList _ _ _ (⟨_, .load 88 _, _, _, _, _⟩ :: _) _ _); refine wpList_load_ho 88 _ (by rfl) (by rfl) ?_ (.pointer (some ⟨_, 0, none⟩)) (by rfl) ?_ _ Try.underlying88 rfl ?_ ?_; rotate_left; (next => (repeat (first | (with_reducible refine BlkAt.new _ _ _ _ ?_; ((try simp) <;> omega)) | (with_reducible assumption) | (with_reducible refine Blk.at (t := ?_) ?_; rotate_left; with_reducible assumption) | with_reducible refine BlkAt.alloc ?_ _ | with_reducible refine BlkAt.drew ?_ | (with_reducible refine BlkAt.setSame ?_ _ _) | (with_reducible refine BlkAt.setCell ?_ ?_ _; rotate_left; ((try simp) <;> omega)) | (with_reducible refine BlkAt.ext (w := ?_) ?_ ?_; rotate_left 2; (with_reducible assumption)) | fail))); (next => kernel_rfl)) | ((with_reducible show wpList _ _ _ (⟨_, .store 88 _ _, _, _, _, _⟩ :: _) _ _); refine wpList_store_blk (by rfl) 88 _ _ (by rfl) _ _ (by rfl) (by rfl) _ _ hN1 (by kernel_rfl) (by rfl) ?_ ?_; (next => simp [Value.oneCell', lvlZ]); intro w2 hN2 hU2) | fail)
    have hN3 : Blk w2 w.heap.size 88 lvlZ := hN2
    exact bodyPost_ret (results_lvl rfl _ _ _ _ _ (by rfl) (by rfl) hN3 rfl) rfl ⟨rfl, below_upd (below_ext hb0 hb1) (Nat.le_refl _) hU2⟩
def sumL : List Lvl → Int
  | [] => 0
  | x :: l => x.qty + sumL l
theorem sumL_app (a b : List Lvl) : sumL (a ++ b) = sumL a + sumL b := by
  induction a with
  | nil => simp [sumL]
  | cons x l ih => simp [sumL, ih]; omega
/-- What lies up to a limit. -/
def wsum (side p : Int) (ls : List Lvl) : Int := sumL (ls.filter fun l => decide (keyF side l.price ≤ keyF side p))
theorem sumQ_L : ∀ (a : List (Of ls)), sumQ a = sumL (a.map (·.1))
  | [] => rfl
  | x :: l => by simp [sumQ, sumL, sumQ_L l]
theorem wsum_all {p : Int} (h : ∀ l ∈ ls, keyF side l.price ≤ keyF side p) : sumQ ls.attach = wsum side p ls := by
  unfold wsum
  rw [List.filter_eq_self.2 (fun l hl => by simpa using h l hl), sumQ_L, List.attach_map_subtype_val]
theorem wsum_cut {p : Int} {A B : List Lvl} {x : Lvl} (hup : Up side (A ++ x :: B)) (h : ∀ y ∈ A, keyF side y.price ≤ keyF side p) (hx : ¬ keyF side x.price ≤ keyF side p) : sumL A = wsum side p (A ++ x :: B) := by
  have h2 : ∀ y ∈ B, ¬ keyF side y.price ≤ keyF side p := by
    intro y hy
    obtain ⟨k, hk, rfl⟩ := List.mem_iff_getElem.1 hy
    have hi : A.length < (A ++ x :: B).length := by simp
    have hj : A.length + 1 + k < (A ++ x :: B).length := by rw [List.length_append, List.length_cons]; omega
    have h3 := hup A.length (A.length + 1 + k) (by omega) hj
    rw [keys_at hi, keys_at hj] at h3
    have e1 : (A ++ x :: B)[A.length]? = some x := by simp
    have e2 : (A ++ x :: B)[A.length + 1 + k]? = some B[k] := by
      rw [List.getElem?_append_right (by omega), show A.length + 1 + k - A.length = k + 1 by omega, List.getElem?_cons_succ]
      exact List.getElem?_eq_getElem hk
    rw [List.getElem?_eq_getElem hi] at e1
    rw [List.getElem?_eq_getElem hj] at e2
    rw [Option.some.inj e1, Option.some.inj e2] at h3
    omega
  unfold wsum
  rw [List.filter_append, sumL_app, List.filter_eq_self.2 (fun y hy => by simpa using h y hy), List.filter_eq_nil_iff.2 (fun y hy => ?_)]
  · simp [sumL]
  · rcases List.mem_cons.1 hy with rfl | hy
    · simpa using hx
    · simpa using h2 y hy
theorem wsum_stop {p : Int} {pre : List (Of ls)} {x : Of ls} (hup : Up side ls) (h : ∀ y ∈ pre, keyF side y.1.price ≤ keyF side p) (hx : ¬ keyF side x.1.price ≤ keyF side p) (hp : pre ++ [x] <+: ls.attach) : sumQ pre = wsum side p ls := by
  obtain ⟨c, hc⟩ := hp
  have h1 : ls = pre.map (·.1) ++ x.1 :: c.map (·.1) := by
    have h0 := congrArg (List.map (·.1)) hc
    rw [List.attach_map_subtype_val] at h0
    simp only [List.map_append, List.map_cons, List.map_nil, List.append_assoc, List.singleton_append] at h0
    exact h0.symm
  have h2 : ∀ y ∈ pre.map (·.1), keyF side y.price ≤ keyF side p := fun y hy => by
    obtain ⟨z, hz, rfl⟩ := List.mem_map.1 hy
    exact h z hz
  rw [sumQ_L]
  obtain ⟨A, hA⟩ : ∃ A, A = pre.map (·.1) := ⟨_, rfl⟩
  obtain ⟨B, hB⟩ : ∃ B, B = c.map (·.1) := ⟨_, rfl⟩
  obtain ⟨y, hy⟩ : ∃ y, y = x.1 := ⟨_, rfl⟩
  rw [← hA] at h1 h2 ⊢
  rw [← hB, ← hy] at h1
  rw [← hy] at hx
  rw [h1] at hup ⊢
  exact wsum_cut hup h2 hx
theorem worth_any (L : La w g side most v ls u) (hup : Up side ls) (p : Int) (hp : I64 p) (hq : ∀ l ∈ ls, 0 ≤ l.qty) (hs : sumQ ls.attach ≤ 4611686018427387903) :
    Calls Try.prog 55 #[.pointer (some ⟨g, 0, none⟩), .int .i64 p] w fun e w' => e = .returned (.int .i64 (wsum side p ls)) ∧ Below w.heap.size w w' := by
  refine calls_of_wp_marks Try.func55 rfl ?_
  simp only [Try.ntmps55, List.size_toArray, List.length_cons, List.length_nil, Nat.reduceAdd, Nat.reduceSub, Array.replicate_succ, Array.replicate_zero, List.push_toArray, List.append_toArray, List.nil_append, List.cons_append]
  have hP : Blk (((w.alloc (.cells #[.pointer (some ⟨g, 0, none⟩)] 64)).alloc (.cells #[.int .i64 p] 2)).alloc (.cells #[.int .i64 0] 2)) w.heap.size 64 #[.pointer (some ⟨g, 0, none⟩)] := ((Blk.new w _ _ _ rfl).alloc _).alloc _
  have hX : Blk (((w.alloc (.cells #[.pointer (some ⟨g, 0, none⟩)] 64)).alloc (.cells #[.int .i64 p] 2)).alloc (.cells #[.int .i64 0] 2)) (w.heap.size + 1) 2 #[.int .i64 p] := (Blk.new _ _ _ _ (by simp only [sz_alloc])).alloc _
  have hT : Blk (((w.alloc (.cells #[.pointer (some ⟨g, 0, none⟩)] 64)).alloc (.cells #[.int .i64 p] 2)).alloc (.cells #[.int .i64 0] 2)) (w.heap.size + 1 + 1) 2 #[.int .i64 0] := Blk.new _ _ _ _ (by simp only [sz_alloc])
  have hb0 : Below w.heap.size w (((w.alloc (.cells #[.pointer (some ⟨g, 0, none⟩)] 64)).alloc (.cells #[.int .i64 p] 2)).alloc (.cells #[.int .i64 0] 2)) := by (repeat (first | with_reducible exact Below.refl _ _ | (with_reducible assumption) | (with_reducible refine below_alloc ?_ _) | (with_reducible refine below_ext (w1 := ?_) ?_ ?_; rotate_left 2; (with_reducible assumption)) | (with_reducible refine Below.setCell ?_ ?_ _; rotate_left; ((try simp) <;> omega)) | (with_reducible refine Below.drew ?_) | (with_reducible refine below_drewN ?_ _) | fail))
  have hz0 : (((w.alloc (.cells #[.pointer (some ⟨g, 0, none⟩)] 64)).alloc (.cells #[.int .i64 p] 2)).alloc (.cells #[.int .i64 0] 2)).heap.size = w.heap.size + 1 + 1 + 1 := by simp only [sz_alloc]
  generalize hw0 : ((w.alloc (.cells #[.pointer (some ⟨g, 0, none⟩)] 64)).alloc (.cells #[.int .i64 p] 2)).alloc (.cells #[.int .i64 0] 2) = w0 at hP hX hT hb0 hz0
  have hgl := L.hd.lt
  have hvl := L.own_lt
  have L0 := Lib.hid (L.ext hb0)
  have hcP : w0.cell? ⟨w.heap.size, 0, none⟩ = some (.pointer (some ⟨g, 0, none⟩)) := hP.cell 0
  have HW0 := Lib.hid hw0
  have HZ0 := Lib.hid hz0
  clear hw0 hz0 L
  go_wp2_with fail
  rw [HW0.out]
  refine wp_scope_straight (wp_seq (wp_label ?_))
  go_wp2_with fail
  refine (each_any (some ⟨g, 0, none⟩) _).mono ?_
  rintro e w1 ⟨rfl, hB1, hb1⟩
  go_wp2_with fail
  have hz0 := HZ0.out
  have hz1 := hb1.size
  have hP1 := hP.ext hb1
  have hX1 := hX.ext hb1
  have hT1 := hT.ext hb1
  have L1 := Lib.hid (L0.out.ext hb1)
  have hb01 := hb0.trans (hb1.mono hb0.size)
  have hseq := Lib.hid (leach_stops L1.out w0.heap.size hB1 [w.heap.size + 1 + 1] ⟨by simp; omega, by simp; omega, fun r hr => by have := hvl r hr; simp; omega⟩)
  clear L0 hP hX hT hb0 hb1 hB1 HW0 HZ0 hcP
  refine' wp_rangeFuncHF (α := Of ls) [w.heap.size + 1 + 1] (gf := 74) (by rfl) (enters_of Try.func74 (by kernel_rfl) rfl) hseq.out (fun _ => rfl)
    (fun pre W => ButL [w.heap.size + 1 + 1] w1.heap.size w1 W ∧ ∃ t, Blk W (w.heap.size + 1 + 1) 2 #[.int .i64 t] ∧ 0 ≤ t ∧ t ≤ 4611686018427387904 ∧ (pre <+: ls.attach → t = sumQ pre) ∧ ∀ y ∈ pre, keyF side y.1.price ≤ keyF side p)
    (fun c pre W => (c = .ret ∧ ¬ pre <+: ls.attach) ∨ (c = .exit 0 ∧ ButL [w.heap.size + 1 + 1] w1.heap.size w1 W ∧ ∃ t, Blk W (w.heap.size + 1 + 1) 2 #[.int .i64 t] ∧ (pre <+: ls.attach → t = wsum side p ls)))
    ?I ?Ix ?h0 _ (fun x bx W => w.heap.size + 1 + 1 + 1 ≤ bx ∧ Blk W bx 88 x.1.arr) ?hBx ?assign ?body ?done ?stop
  case I =>
    rintro pre W W' row ⟨h1, t, h2, h3⟩ hg hr
    have hbl : Below w1.heap.size W W' := grown_below hg h1.size (fun g e => (hr g e).1)
    exact ⟨h1.trans (ButL.of_below hbl), t, h2.own hg hr, h3⟩
  case Ix =>
    rintro c pre W W' row h2 hg hr
    rcases h2 with h2 | ⟨h2, h1, t, h3, h4⟩
    · exact .inl h2
    · have hbl : Below w1.heap.size W W' := grown_below hg h1.size (fun g e => (hr g e).1)
      exact .inr ⟨h2, h1.trans (ButL.of_below hbl), t, h3.own hg hr, h4⟩
  case h0 => exact ⟨ButL.refl _ _ _, 0, hT1, by omega, by omega, fun _ => rfl, fun y hy => absurd hy (by simp)⟩
  case hBx =>
    rintro x bx _ W W' row ⟨h2, h3⟩ hg hr
    exact ⟨h2, h3.own hg hr⟩
  case assign =>
    intro l pre x W K hI hK
    obtain ⟨h1, t, h2, h3⟩ := hI
    have hsz := h1.size
    have hX0 : Blk (W.alloc (.cells lvlZ 88)) W.heap.size 88 lvlZ := Blk.new _ _ _ _ rfl
    unfold encL
    refine round_region_lit (by kernel_rfl) (fun ⟨_, _, h⟩ => h) ?_
    go_wp2_with (first | ((with_reducible show wpList _ _ _ (⟨_, .store 88 _ _, _, _, _, _⟩ :: _) _ _); refine wpList_store_blk (by rfl) 88 _ _ (by rfl) _ _ (by rfl) (by rfl) _ _ hX0 (by kernel_rfl) (by rfl) ?_ ?_; (next => simp [Value.oneCell', Lvl.arr, Lvl.cells]); intro W5 hX5 hU5) | fail)
    have hW5 : Below W.heap.size W W5 := below_upd (by (repeat (first | with_reducible exact Below.refl _ _ | (with_reducible assumption) | (with_reducible refine below_alloc ?_ _) | (with_reducible refine below_ext (w1 := ?_) ?_ ?_; rotate_left 2; (with_reducible assumption)) | (with_reducible refine Below.setCell ?_ ?_ _; rotate_left; ((try simp) <;> omega)) | (with_reducible refine Below.drew ?_) | (with_reducible refine below_drewN ?_ _) | fail))) (Nat.le_refl _) hU5
    simp only [Act.put]
    obtain ⟨bx, hbe⟩ : ∃ b, b = W.heap.size := ⟨_, rfl⟩
    rw [← hbe] at hX5 ⊢
    exact hK bx W5 (keepsFrom_below hW5) (ButL.of_below (hW5.mono hsz)) ⟨h1.trans (ButL.of_below (hW5.mono hsz)), t, h2.ext hW5, h3⟩ ⟨by omega, hX5⟩
  case body =>
    rintro l pre x bx W ⟨h1, t, h2, h3, h4, h5, h6⟩ ⟨hbx, hX⟩ hlt2
    have LW : Hid (∀ W', Below W.heap.size W W' → W'.cell? ⟨g, 0, none⟩ = some (.int .i64 side)) := Lib.hid (fun W' hW' => ((L1.out.hd.butL h1 (by simp; omega)).ext hW').cell 0)
    have hrng := L1.out.rng x.1 x.2
    have hqx := hq x.1 x.2
    have hqm := sumQ_mem hq ls.attach (List.mem_attach ls x)
    have hpx : I64 x.1.price := ⟨by omega, by omega⟩
    have HK1 : Hid (∀ W', Below W.heap.size W W' → Calls Try.prog 77 #[.pointer (some ⟨g, 0, none⟩), .int .i64 x.1.price] W' fun e w' => e = .returned (.int .i64 (keyF side x.1.price)) ∧ W' = w') := Lib.hid (fun W' hW' => key_at (LW.out W' hW') _ hpx)
    have HK2 : Hid (∀ W', Below W.heap.size W W' → Calls Try.prog 77 #[.pointer (some ⟨g, 0, none⟩), .int .i64 p] W' fun e w' => e = .returned (.int .i64 (keyF side p)) ∧ W' = w') := Lib.hid (fun W' hW' => key_at (LW.out W' hW') _ hp)
    have cP : W.cell? ⟨w.heap.size, 0, none⟩ = some (.pointer (some ⟨g, 0, none⟩)) := (hP1.butL h1 (by simp; omega)).cell 0
    have cX : W.cell? ⟨w.heap.size + 1, 0, none⟩ = some (.int .i64 p) := (hX1.butL h1 (by simp)).cell 0
    have cB : W.cell? ⟨bx, 0, none⟩ = some (.int .i64 x.1.price) := hX.cell 0
    have lX := hX.lt
    have lT := h2.lt
    have lP : w.heap.size < W.heap.size := by omega
    have lQ : w.heap.size + 1 < W.heap.size := by omega
    have H6 : Hid (∀ y ∈ pre ++ [x], keyF side x.1.price ≤ keyF side p → keyF side y.1.price ≤ keyF side p) := Lib.hid (fun y hy hx => by
      rcases List.mem_append.1 hy with h | h
      · exact h6 y h
      · rw [List.mem_singleton.1 h]; exact hx)
    have HSt : Hid (¬ keyF side x.1.price ≤ keyF side p → pre ++ [x] <+: ls.attach → sumQ pre = wsum side p ls) := Lib.hid (fun hn hpre => wsum_stop hup h6 hn hpre)
    clear h6
    clear hseq L1 LW
    generalize keyF side p = kp at *
    generalize keyF side x.1.price = kx at *
    by_cases hkx : kx ≤ kp
    · have hgt : ¬ (kp < kx) := by omega
      gi_wp2_with fail
      refine round_region_below_lit (by kernel_rfl) (by kernel_rfl) (fun ⟨_, _, h⟩ => h) (by kernel_rfl) ?_
      repeat (first | go_big_quiet_skip | (go_big_quiet_want; go_big_quiet_op; go_big_quiet_on) | (refine q_load_fld (by rfl) _ _ (by rfl) (fun _ h => h) _ _ (by rfl) ?_ ?_ ?_ ?_ ?_ ?_; rotate_left; (next => (repeat (first | (with_reducible refine BlkAt.new _ _ _ _ ?_; ((try simp) <;> omega)) | (with_reducible assumption) | (with_reducible refine Blk.at (t := ?_) ?_; rotate_left; with_reducible assumption) | with_reducible refine BlkAt.alloc ?_ _ | with_reducible refine BlkAt.drew ?_ | (with_reducible refine BlkAt.setSame ?_ _ _) | (with_reducible refine BlkAt.setCell ?_ ?_ _; rotate_left; ((try simp) <;> omega)) | (with_reducible refine BlkAt.ext (w := ?_) ?_ ?_; rotate_left 2; (with_reducible assumption)) | fail))); rotate_left; (next => first | (simp only [go_sem]; rfl) | rfl); (next => kernel_rfl); (try simp only [Act.put, List.setIfInBounds_toArray, List.set_cons_zero, List.set_cons_succ])) | (refine q_rem (by rfl) _ _ _ _ (by rfl) _ _ (by rfl) (by rfl) (by kernel_rfl) (by kernel_rfl) ?_ ?_; (next => omega); (try simp only [Act.put, List.setIfInBounds_toArray, List.set_cons_zero, List.set_cons_succ])) | (refine q_step_ex (by rfl) ?_; apply Exists.intro; refine ⟨fun W hW => ?_, ?_⟩; (next => (have hWc := fun (b o : Nat) (h : b < _) => (Ext.out hW).cell (p := ⟨b, o, none⟩) h); (try have hLK := HLK.out W (Ext.out hW)); go_simp; first | rfl | (go_at_call 77; (first | with_reducible refine (HK1.out _ hW.out).mono ?_ | with_reducible refine (HK2.out _ hW.out).mono ?_); rintro e w'' ⟨rfl, rfl⟩; exact ⟨rfl, hW⟩) | fail); (try simp only [Act.put, List.setIfInBounds_toArray, List.set_cons_zero, List.set_cons_succ])) | fail)
      refine wpQuiet_nil ?_
      intro w7 hb7
      have h27 := h2.ext hb7
      have cT : w7.cell? ⟨w.heap.size + 1 + 1, 0, none⟩ = some (.int .i64 t) := h27.cell 0
      have cQ : w7.cell? ⟨bx, 1, none⟩ = some (.int .i64 x.1.qty) := (hX.ext hb7).cell 1
      have HA := Lib.hid (Fix.add_any t x.1.qty w7 ⟨by omega, by omega⟩ ⟨by omega, by omega⟩ ⟨by omega, by omega⟩)
      have hnt : w7.frozen? ⟨w.heap.size + 1 + 1, 0, none⟩ = false := h27.frozen 0
      gi_wp2_with fail
      refine ⟨trivial, CallsIn.inRound l (callsIn_wide.2 ?_)⟩
      refine HA.out.mono ?_
      rintro e w' ⟨rfl, rfl⟩
      have hsz := h1.size
      by_cases hov : t + x.1.qty ≤ 4611686018427387904
      · have hov2 : ¬ (4611686018427387904 < t + x.1.qty) := by omega
        gi_wp2_with fail
        have hU8 := Upd.setCell w7 ⟨w.heap.size + 1 + 1, 0, none⟩ (.int .i64 (t + x.1.qty))
        have h28 := h27.setCell 0 (.int .i64 (t + x.1.qty))
        refine ⟨(keepsFrom_below hb7).trans ((KeepsOthers.setCell _ _ _).from _), (ButL.of_below (hb7.mono hsz)).upd (by simp) hU8, h1.trans ((ButL.of_below (hb7.mono hsz)).upd (by simp) hU8), t + x.1.qty, h28, by omega, hov, fun hpre => ?_, fun y hy => H6.out y hy (by omega)⟩
        rw [sumQ_app, h5 ((List.prefix_append _ _).trans hpre)]
        simp [sumQ]
      · have hov2 : 4611686018427387904 < t + x.1.qty := by omega
        gi_wp2_with fail
        refine ⟨(keepsFrom_below hb7).trans ((KeepsOthers.setCell _ _ _).from _), .inl ⟨rfl, fun hpre => ?_⟩⟩
        have k1 := h5 ((List.prefix_append _ _).trans hpre)
        have k2 := sumQ_le hq hpre
        rw [sumQ_app] at k2
        simp only [sumQ] at k2
        omega
    · have hgt : kp < kx := by omega
      gi_wp2_with fail
      refine round_region_below_lit (by kernel_rfl) (by kernel_rfl) (fun ⟨_, _, h⟩ => h) (by kernel_rfl) ?_
      repeat (first | go_big_quiet_skip | (go_big_quiet_want; go_big_quiet_op; go_big_quiet_on) | (refine q_load_fld (by rfl) _ _ (by rfl) (fun _ h => h) _ _ (by rfl) ?_ ?_ ?_ ?_ ?_ ?_; rotate_left; (next => (repeat (first | (with_reducible refine BlkAt.new _ _ _ _ ?_; ((try simp) <;> omega)) | (with_reducible assumption) | (with_reducible refine Blk.at (t := ?_) ?_; rotate_left; with_reducible assumption) | with_reducible refine BlkAt.alloc ?_ _ | with_reducible refine BlkAt.drew ?_ | (with_reducible refine BlkAt.setSame ?_ _ _) | (with_reducible refine BlkAt.setCell ?_ ?_ _; rotate_left; ((try simp) <;> omega)) | (with_reducible refine BlkAt.ext (w := ?_) ?_ ?_; rotate_left 2; (with_reducible assumption)) | fail))); rotate_left; (next => first | (simp only [go_sem]; rfl) | rfl); (next => kernel_rfl); (try simp only [Act.put, List.setIfInBounds_toArray, List.set_cons_zero, List.set_cons_succ])) | (refine q_rem (by rfl) _ _ _ _ (by rfl) _ _ (by rfl) (by rfl) (by kernel_rfl) (by kernel_rfl) ?_ ?_; (next => omega); (try simp only [Act.put, List.setIfInBounds_toArray, List.set_cons_zero, List.set_cons_succ])) | (refine q_step_ex (by rfl) ?_; apply Exists.intro; refine ⟨fun W hW => ?_, ?_⟩; (next => (have hWc := fun (b o : Nat) (h : b < _) => (Ext.out hW).cell (p := ⟨b, o, none⟩) h); (try have hLK := HLK.out W (Ext.out hW)); go_simp; first | rfl | (go_at_call 77; (first | with_reducible refine (HK1.out _ hW.out).mono ?_ | with_reducible refine (HK2.out _ hW.out).mono ?_); rintro e w'' ⟨rfl, rfl⟩; exact ⟨rfl, hW⟩) | fail); (try simp only [Act.put, List.setIfInBounds_toArray, List.set_cons_zero, List.set_cons_succ])) | fail)
      refine wpQuiet_nil ?_
      intro w7 hb7
      have hsz := h1.size
      gi_wp2_with fail
      refine ⟨keepsFrom_below hb7, .inr ⟨rfl, h1.trans (ButL.of_below (hb7.mono hsz)), t, h2.ext hb7, fun hpre => ?_⟩⟩
      rw [← HSt.out hkx hpre]
      exact h5 ((List.prefix_append _ _).trans hpre)
  case done =>
    rintro D ys W hD rfl ⟨h1, t, h2, h3, h4, h5, h6⟩ hK
    obtain rfl := h5 (List.prefix_refl _)
    rw [wsum_all (fun y hy => h6 ⟨y, hy⟩ (List.mem_attach ls _))] at h2
    have hDl : D < W.heap.size := (Array.getElem?_eq_some_iff.1 hK).1
    have cT : W.cell? ⟨w.heap.size + 1 + 1, 0, none⟩ = some (.int .i64 (wsum side p ls)) := h2.cell 0
    have hbW : Below w.heap.size w W := hb01.trans ⟨h1.os, h1.tape, h1.output, h1.size, fun k hk => h1.block k (by omega) (by simp; omega)⟩
    clear h5 h6 hseq
    go_wp2_with (first | ((with_reducible show wpList _ _ _ (⟨_, .store _ _ _, _, _, _, _⟩ :: _) _ _); refine wpList_store_fld (by rfl) _ _ _ (by rfl) _ _ (by rfl) _ (by rfl) _ _ h2 ?_ ?_ (by rfl) (by rfl) ?_; (next => first | omega | ((try simp) <;> omega)); (next => kernel_rfl); intro w9 hT9 hU9) | fail)
    have hK9 : w9.heap[D]? = some (.deferred (some [])) := (hU9.block D (by omega)).trans hK
    have hb9 : Below w.heap.size w w9 := below_upd hbW (by omega) hU9
    have hT10 : Blk w9 (w.heap.size + 1 + 1) 2 #[.int .i64 (wsum side p ls)] := hT9
    have hcc : (w9.putObj D (.deferred none)).cell? ⟨w.heap.size + 1 + 1, 0, none⟩ = some (.int .i64 (wsum side p ls)) := (cell_mark (by omega)).trans (hT10.cell 0)
    show bodyPostM Fence.wide 9 _ _ _ Exit.ret _ _
    exact bodyPostM_ret (v := .int .i64 (wsum side p ls)) rfl hK9 (by simp [results, Try.results55, go_sem, hcc]) ⟨rfl, below_mark hb9 (by omega) hK9⟩
  case stop =>
    rintro D c pre W hD hSp h2 hK
    rcases h2 with ⟨rfl, hx⟩ | ⟨rfl, h1, t, h2, h3⟩
    · exact absurd hSp hx
    · obtain rfl := h3 hSp
      have hDl : D < W.heap.size := (Array.getElem?_eq_some_iff.1 hK).1
      have cT : W.cell? ⟨w.heap.size + 1 + 1, 0, none⟩ = some (.int .i64 (wsum side p ls)) := h2.cell 0
      have hbW : Below w.heap.size w W := hb01.trans ⟨h1.os, h1.tape, h1.output, h1.size, fun k hk => h1.block k (by omega) (by simp; omega)⟩
      clear h3 hseq
      go_wp2_with (first | ((with_reducible show wpList _ _ _ (⟨_, .store _ _ _, _, _, _, _⟩ :: _) _ _); refine wpList_store_fld (by rfl) _ _ _ (by rfl) _ _ (by rfl) _ (by rfl) _ _ h2 ?_ ?_ (by rfl) (by rfl) ?_; (next => first | omega | ((try simp) <;> omega)); (next => kernel_rfl); intro w9 hT9 hU9) | fail)
      have hK9 : w9.heap[D]? = some (.deferred (some [])) := (hU9.block D (by omega)).trans hK
      have hb9 : Below w.heap.size w w9 := below_upd hbW (by omega) hU9
      have hT10 : Blk w9 (w.heap.size + 1 + 1) 2 #[.int .i64 (wsum side p ls)] := hT9
      have hcc : (w9.putObj D (.deferred none)).cell? ⟨w.heap.size + 1 + 1, 0, none⟩ = some (.int .i64 (wsum side p ls)) := (cell_mark (by omega)).trans (hT10.cell 0)
      show bodyPostM Fence.wide 9 _ _ _ Exit.ret _ _
      exact bodyPostM_ret (v := .int .i64 (wsum side p ls)) rfl hK9 (by simp [results, Try.results55, go_sem, hcc]) ⟨rfl, below_mark hb9 (by omega) hK9⟩
end
end Lad
end Go.Proofs.Ytdhbioaoholcbaa
