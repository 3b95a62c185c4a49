/- This text proves contracts of a held ladder: Fits, Find, and Worth up to any limit. It has no conditions but those that it states. -/
import Derived.Test.YtacpjpkhmdcagaaGreatLadW
import Derived.Test.YtacpjpkhmdcagaaGreatLadA
namespace Go.Proofs.YtacpjpkhmdcagaaGreat
set_option linter.unusedVariables false
open Go.RowKit
namespace Lad
set_option maxHeartbeats 2000000
set_option maxRecDepth 10000
attribute [local go_sem] Oper.semAt_some
section
variable {w : World} {g : Nat} {side most : Int} {v : Value} {ls : List Lvl} {u : Nat → Nat}
theorem key_one {a b : Int} (ha : I64 a) (hb : I64 b) (h : keyF side a = keyF side b) : a = b := by
  unfold keyF at h
  unfold I64 at ha hb
  split at h
  · unfold wrap64 at h
    omega
  · exact h
def anyP (p : Int) (ls : List Lvl) : Bool := ls.any fun l => decide (l.price = p)
theorem any_stands (hr : ∀ l ∈ ls, 1 ≤ l.price ∧ l.price ≤ 9223372036854775807) (hup : Up side ls) {p : Int} (hp : I64 p) {i : Nat} (hst : Stands (keys side ls) ls.length (keyF side p) i) :
    decide (i < ls.length ∧ keys side ls i = keyF side p) = anyP p ls := by
  by_cases h : i < ls.length ∧ keys side ls i = keyF side p
  · rw [decide_eq_true h]
    obtain ⟨h1, h2⟩ := h
    rw [keys_at h1] at h2
    have hm := List.getElem_mem h1
    have hx := hr _ hm
    have h3 := key_one (show I64 ls[i].price from ⟨by omega, by omega⟩) hp h2
    symm
    unfold anyP
    rw [List.any_eq_true]
    exact ⟨_, hm, by simpa using h3⟩
  · rw [decide_eq_false h]
    symm
    unfold anyP
    rw [List.any_eq_false]
    intro y hy e
    simp only [decide_eq_true_eq] at e
    obtain ⟨j, hj, rfl⟩ := List.mem_iff_getElem.1 hy
    have k1 := keys_at (side := side) hj
    rw [e] at k1
    rcases Nat.lt_or_ge j i with h4 | h4
    · have := hst.lo j h4
      omega
    · rcases Nat.lt_or_ge i j with h2 | h2
      · have h3 := hup i j h2 hj
        have h4 := hst.hi i (Nat.le_refl _) (by omega)
        omega
      · have : i = j := by omega
        subst this
        exact h ⟨hj, k1⟩
theorem fits_any (L : La w g side most v ls u) (hup : Up side ls) (p : Int) (hp : I64 p) :
    Calls Tryz.prog 89 #[.pointer (some ⟨g, 0, none⟩), .int .i64 p] w fun e w' => e = .returned (.bool (anyP p ls || decide ((ls.length : Int) < most))) ∧ Below w.heap.size w w' := by
  obtain ⟨i, hst⟩ := stands_ex (kf := keys side ls) (k := keyF side p) ls.length hup
  have hPl := Lib.hid (place_any L hup p hp hst)
  rw [any_stands (fun l hl => L.rng l hl) hup hp hst] at hPl
  obtain ⟨A, cap, rfl, _, _⟩ := L.rd
  have hL := Lib.hid L
  have hgl := L.hd.lt
  clear L hst hup
  generalize anyP p ls = f at *
  generalize ls.length = n at *
  cases f with
  | true =>
    go_enter Tryz.func89, Tryz.ntmps89
    go_wp2_with (first | (go_at_call 72; refine hPl.out.mono ?_; rintro e w1 ⟨rfl, hb1⟩) | fail)
    refine wp_region_below_lit (by kernel_rfl) (by kernel_rfl) ?_
    repeat (first | go_big_quiet_skip | (go_big_quiet_want; go_big_quiet_op; go_big_quiet_on) | (refine q_load_fld (by rfl) _ _ (by rfl) (fun _ h => h) _ _ (by rfl) ?_ ?_ ?_ ?_ ?_ ?_; rotate_left; (next => (repeat (first | (with_reducible refine BlkAt.new _ _ _ _ ?_; ((try simp) <;> omega)) | (with_reducible assumption) | (with_reducible refine Blk.at (t := ?_) ?_; rotate_left; with_reducible assumption) | with_reducible refine BlkAt.alloc ?_ _ | with_reducible refine BlkAt.drew ?_ | (with_reducible refine BlkAt.setSame ?_ _ _) | (with_reducible refine BlkAt.setCell ?_ ?_ _; rotate_left; ((try simp) <;> omega)) | (with_reducible refine BlkAt.ext (w := ?_) ?_ ?_; rotate_left 2; (with_reducible assumption)) | fail))); rotate_left; (next => first | (simp only [go_sem]; rfl) | rfl); (next => kernel_rfl); (try simp only [Act.put, List.setIfInBounds_toArray, List.set_cons_zero, List.set_cons_succ])) | (refine q_rem (by rfl) _ _ _ _ (by rfl) _ _ (by rfl) (by rfl) (by kernel_rfl) (by kernel_rfl) ?_ ?_; (next => omega); (try simp only [Act.put, List.setIfInBounds_toArray, List.set_cons_zero, List.set_cons_succ])) | (refine q_step_ex (by rfl) ?_; apply Exists.intro; refine ⟨fun W hW => ?_, ?_⟩; (next => (have hWc := fun (b o : Nat) (h : b < _) => (Ext.out hW).cell (p := ⟨b, o, none⟩) h); (try have hLK := HLK.out W (Ext.out hW)); go_simp; first | rfl | fail | fail); (try simp only [Act.put, List.setIfInBounds_toArray, List.set_cons_zero, List.set_cons_succ])) | fail)
    refine wpQuiet_nil ?_
    intro w2 hb2
    go_wp2_with fail
    go_ret
    exact ⟨rfl, below_ext hb1 hb2⟩
  | false =>
    go_enter Tryz.func89, Tryz.ntmps89
    go_wp2_with (first | (go_at_call 72; refine hPl.out.mono ?_; rintro e w1 ⟨rfl, hb1⟩) | fail)
    have c1 : w1.cell? ⟨g, 1, none⟩ = some (.int .i64 most) := (hL.out.ext hb1).hd.cell 1
    have c2 : w1.cell? ⟨g, 2, none⟩ = some (.slice A n cap) := (hL.out.ext hb1).hd.cell 2
    have hg1 := (hL.out.ext hb1).hd.lt
    refine wp_region_below_lit (by kernel_rfl) (by kernel_rfl) ?_
    repeat (first | go_big_quiet_skip | (go_big_quiet_want; go_big_quiet_op; go_big_quiet_on) | (refine q_load_fld (by rfl) _ _ (by rfl) (fun _ h => h) _ _ (by rfl) ?_ ?_ ?_ ?_ ?_ ?_; rotate_left; (next => (repeat (first | (with_reducible refine BlkAt.new _ _ _ _ ?_; ((try simp) <;> omega)) | (with_reducible assumption) | (with_reducible refine Blk.at (t := ?_) ?_; rotate_left; with_reducible assumption) | with_reducible refine BlkAt.alloc ?_ _ | with_reducible refine BlkAt.drew ?_ | (with_reducible refine BlkAt.setSame ?_ _ _) | (with_reducible refine BlkAt.setCell ?_ ?_ _; rotate_left; ((try simp) <;> omega)) | (with_reducible refine BlkAt.ext (w := ?_) ?_ ?_; rotate_left 2; (with_reducible assumption)) | fail))); rotate_left; (next => first | (simp only [go_sem]; rfl) | rfl); (next => kernel_rfl); (try simp only [Act.put, List.setIfInBounds_toArray, List.set_cons_zero, List.set_cons_succ])) | (refine q_rem (by rfl) _ _ _ _ (by rfl) _ _ (by rfl) (by rfl) (by kernel_rfl) (by kernel_rfl) ?_ ?_; (next => omega); (try simp only [Act.put, List.setIfInBounds_toArray, List.set_cons_zero, List.set_cons_succ])) | (refine q_step_ex (by rfl) ?_; apply Exists.intro; refine ⟨fun W hW => ?_, ?_⟩; (next => (have hWc := fun (b o : Nat) (h : b < _) => (Ext.out hW).cell (p := ⟨b, o, none⟩) h); (try have hLK := HLK.out W (Ext.out hW)); go_simp; first | rfl | fail | fail); (try simp only [Act.put, List.setIfInBounds_toArray, List.set_cons_zero, List.set_cons_succ])) | fail)
    refine wpQuiet_nil ?_
    intro w2 hb2
    go_wp2_with fail
    go_ret
    exact ⟨by simp, below_ext hb1 hb2⟩
def fndP (p : Int) (ls : List Lvl) : Lvl := (ls.find? fun l => decide (l.price = p)).getD ⟨0, 0, 0, 0⟩
def sumL : List Lvl → Int
  | [] => 0
  | x :: l => x.qty + sumL l
theorem sumL_app (a b : List Lvl) : sumL (a ++ b) = sumL a + sumL b := by
  induction a with
  | nil => simp [sumL]
  | cons x l ih => simp [sumL, ih]; omega
/-- What lies up to a limit. -/
def wsum (side p : Int) (ls : List Lvl) : Int := sumL (ls.filter fun l => decide (keyF side l.price ≤ keyF side p))
theorem sumQ_L : ∀ (a : List (Of ls)), sumQ a = sumL (a.map (·.1))
  | [] => rfl
  | x :: l => by simp [sumQ, sumL, sumQ_L l]
theorem wsum_all {p : Int} (h : ∀ l ∈ ls, keyF side l.price ≤ keyF side p) : sumQ ls.attach = wsum side p ls := by
  unfold wsum
  rw [List.filter_eq_self.2 (fun l hl => by simpa using h l hl), sumQ_L, List.attach_map_subtype_val]
theorem wsum_cut {p : Int} {A B : List Lvl} {x : Lvl} (hup : Up side (A ++ x :: B)) (h : ∀ y ∈ A, keyF side y.price ≤ keyF side p) (hx : ¬ keyF side x.price ≤ keyF side p) : sumL A = wsum side p (A ++ x :: B) := by
  have h2 : ∀ y ∈ B, ¬ keyF side y.price ≤ keyF side p := by
    intro y hy
    obtain ⟨k, hk, rfl⟩ := List.mem_iff_getElem.1 hy
    have hi : A.length < (A ++ x :: B).length := by simp
    have hj : A.length + 1 + k < (A ++ x :: B).length := by rw [List.length_append, List.length_cons]; omega
    have h3 := hup A.length (A.length + 1 + k) (by omega) hj
    rw [keys_at hi, keys_at hj] at h3
    have e1 : (A ++ x :: B)[A.length]? = some x := by simp
    have e2 : (A ++ x :: B)[A.length + 1 + k]? = some B[k] := by
      rw [List.getElem?_append_right (by omega), show A.length + 1 + k - A.length = k + 1 by omega, List.getElem?_cons_succ]
      exact List.getElem?_eq_getElem hk
    rw [List.getElem?_eq_getElem hi] at e1
    rw [List.getElem?_eq_getElem hj] at e2
    rw [Option.some.inj e1, Option.some.inj e2] at h3
    omega
  unfold wsum
  rw [List.filter_append, sumL_app, List.filter_eq_self.2 (fun y hy => by simpa using h y hy), List.filter_eq_nil_iff.2 (fun y hy => ?_)]
  · simp [sumL]
  · rcases List.mem_cons.1 hy with rfl | hy
    · simpa using hx
    · simpa using h2 y hy
theorem wsum_stop {p : Int} {pre : List (Of ls)} {x : Of ls} (hup : Up side ls) (h : ∀ y ∈ pre, keyF side y.1.price ≤ keyF side p) (hx : ¬ keyF side x.1.price ≤ keyF side p) (hp : pre ++ [x] <+: ls.attach) : sumQ pre = wsum side p ls := by
  obtain ⟨c, hc⟩ := hp
  have h1 : ls = pre.map (·.1) ++ x.1 :: c.map (·.1) := by
    have h0 := congrArg (List.map (·.1)) hc
    rw [List.attach_map_subtype_val] at h0
    simp only [List.map_append, List.map_cons, List.append_assoc, List.singleton_append] at h0
    exact h0.symm
  have h2 : ∀ y ∈ pre.map (·.1), keyF side y.price ≤ keyF side p := fun y hy => by
    obtain ⟨z, hz, rfl⟩ := List.mem_map.1 hy
    exact h z hz
  rw [sumQ_L]
  obtain ⟨A, hA⟩ : ∃ A, A = pre.map (·.1) := ⟨_, rfl⟩
  obtain ⟨B, hB⟩ : ∃ B, B = c.map (·.1) := ⟨_, rfl⟩
  obtain ⟨y, hy⟩ : ∃ y, y = x.1 := ⟨_, rfl⟩
  rw [← hA] at h1 h2 ⊢
  rw [← hB, ← hy] at h1
  rw [← hy] at hx
  rw [h1] at hup ⊢
  exact wsum_cut hup h2 hx
end
end Lad
end Go.Proofs.YtacpjpkhmdcagaaGreat
