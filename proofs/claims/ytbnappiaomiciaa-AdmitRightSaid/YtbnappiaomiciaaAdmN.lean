/- This text proves what is wrong first with a new order, and with a change of one: contracts of admit.New, admit.Replace, damperref25.New, damperref25.Replace, and of the small functions beside them. It has no conditions but those that it states. -/
import Derived.Test.YtbnappiaomiciaaAdmV
import Derived.Test.YtbnappiaomiciaaOwn
namespace Go.Proofs.Ytbnappiaomiciaa
set_option linter.unusedVariables false
open Go.RowKit
namespace Adm
set_option maxHeartbeats 1000000
set_option maxRecDepth 10000
def ordOf (c : Cmd) (q : Int) : Ord := ⟨c.id, c.owner, c.side, c.price, c.qty, c.flags, q⟩
def matF (p : Int) : Bool := p == 2
def resF (p : Int) : Bool := p == 1 || p == 3 || p == 4
def stF (c : Cmd) : Bool := c.typ == 1 || c.typ == 5
theorem order_any (c : Cmd) (q : Int) (w : World) : Calls Try.prog 8 #[.agg c.arr, .int .i64 q] w fun e w' => e = .returned (.agg (ordOf c q).arr) ∧ Below w.heap.size w w' := by
  go_enter Try.func8, Try.ntmps8
  go_wp2_with fail
  refine bodyPost_ret (v := .agg (ordOf c q).arr) (by simp [results, Try.results8, go_sem]; first | done | rfl | exact ⟨rfl, rfl⟩) rfl ⟨rfl, ?_⟩
  (repeat (first | with_reducible exact Below.refl _ _ | (with_reducible assumption) | (with_reducible refine below_alloc ?_ _) | (with_reducible refine below_ext (w1 := ?_) ?_ ?_; rotate_left 2; (with_reducible assumption)) | (with_reducible refine Below.setCell ?_ ?_ _; rotate_left; ((try simp) <;> omega)) | (with_reducible refine Below.drew ?_) | (with_reducible refine below_drewN ?_ _) | fail))
theorem own_any (b : Bool) (s : Int) (w : World) : Calls Try.prog 7 #[.agg #[.bool b, .int .i64 s]] w fun e w' => e = .returned (.agg #[.bool b, .int .i64 s]) ∧ Below w.heap.size w w' := by
  go_enter Try.func7, Try.ntmps7
  go_wp2
  refine bodyPost_ret (v := .agg #[.bool b, .int .i64 s]) (by simp [results, Try.results7, go_sem]; first | done | rfl | exact ⟨rfl, rfl⟩) rfl ⟨rfl, ?_⟩
  (repeat (first | with_reducible exact Below.refl _ _ | (with_reducible assumption) | (with_reducible refine below_alloc ?_ _) | (with_reducible refine below_ext (w1 := ?_) ?_ ?_; rotate_left 2; (with_reducible assumption)) | (with_reducible refine Below.setCell ?_ ?_ _; rotate_left; ((try simp) <;> omega)) | (with_reducible refine Below.drew ?_) | (with_reducible refine below_drewN ?_ _) | fail))
theorem matches_any (p : Int) (w : World) : Calls Try.prog 23 #[.int .i64 p] w fun e w' => e = .returned (.bool (matF p)) ∧ w = w' := by
  go_enter Try.func23, Try.ntmps23
  go_wp2_with fail
  go_ret
  exact ⟨rfl, rfl⟩
theorem rests_any (p : Int) (w : World) : Calls Try.prog 24 #[.int .i64 p] w fun e w' => e = .returned (.bool (resF p)) ∧ w = w' := by
  go_enter Try.func24, Try.ntmps24
  go_wp2_with fail
  all_goals go_ret
  all_goals refine ⟨ret_bool ?_, rfl⟩
  all_goals simp_all [resF]
def keepsF (o : Ord) (c : Cmd) : Bool := c.price == o.price && (decide (1 ≤ c.qty) && decide (c.qty ≤ o.qty))
def cancelF (p : Int) : Int := if 1 ≤ p ∧ p ≤ 5 then 0 else 10
/-! ### New -/
def nf (c : Cmd) (ph g : Int) (may : Bool) : Nat → Int
  | 0 => unlF (c.kind == 1 && rightF c) 4
  | 1 => unlF (matF ph || (resF ph && stF c)) 10
  | _ => valF c.price c.qty g may (c.typ == 2)
def newF (c : Cmd) (ph g : Int) (may : Bool) : Int := firstF (nf c ph g may) 0 3
section
variable {w : World} {y : Sym} {c : Cmd} {b st : Bool} {s ph : Int} {bs bc bt bp bm g : Nat} {tf : TypeId}
theorem n1_any (hC : Blk w bc 27 c.arr) : Calls Try.prog 26 #[.pointer (some ⟨bc, 0, none⟩)] w (FPost (unlF (c.kind == 1 && rightF c) 4) w) := by
  have hK := Lib.hid (fun W => right_any c W)
  have hc : w.cell? ⟨bc, 0, none⟩ = some (.int .i64 c.kind) := hC.cell 0
  generalize rightF c = r at *
  cases hk : (c.kind == 1)
  · go_enter Try.func26, Try.ntmps26
    go_wp2_with (first | (go_at_call 27; refine (unless_any _ _ _).mono ?_; rintro e w' ⟨rfl, rfl⟩) | fail)
    go_ret
    exact ⟨rfl, Below.refl _ _⟩
  · go_enter Try.func26, Try.ntmps26
    go_wp2_with (first | ((with_reducible show wpList _ _ _ (⟨_, .load 27 _, _, _, _, _⟩ :: _) _ _); refine wpList_load_ho 27 _ (by rfl) (by rfl) ?_ (.pointer (some ⟨_, 0, none⟩)) (by rfl) ?_ _ Try.underlying27 rfl ?_ ?_; rotate_left; (next => (repeat (first | (with_reducible refine BlkAt.new _ _ _ _ ?_; ((try simp) <;> omega)) | (with_reducible assumption) | (with_reducible refine Blk.at (t := ?_) ?_; rotate_left; with_reducible assumption) | with_reducible refine BlkAt.alloc ?_ _ | with_reducible refine BlkAt.drew ?_ | (with_reducible refine BlkAt.setSame ?_ _ _) | (with_reducible refine BlkAt.setCell ?_ ?_ _; rotate_left; ((try simp) <;> omega)) | (with_reducible refine BlkAt.ext (w := ?_) ?_ ?_; rotate_left 2; (with_reducible assumption)) | fail))); (next => kernel_rfl)) | (go_at_call 28; refine (hK.out _).mono ?_; rintro e w' ⟨rfl, hb1⟩) | (go_at_call 27; refine (unless_any _ _ _).mono ?_; rintro e w' ⟨rfl, rfl⟩) | fail)
    go_ret
    exact ⟨rfl, hb1⟩
theorem n2_any (hP : w.cell? ⟨bp, 0, none⟩ = some (.int .i64 ph)) (hM : w.cell? ⟨bm, 0, none⟩ = some (.bool st)) : Calls Try.prog 29 #[.pointer (some ⟨bp, 0, none⟩), .pointer (some ⟨bm, 0, none⟩)] w (FPost (unlF (matF ph || (resF ph && st)) 10) w) := by
  go_enter Try.func29, Try.ntmps29
  go_wp2_with (first | (go_at_call 23; refine (matches_any _ _).mono ?_; rintro e w' ⟨rfl, rfl⟩) | (go_at_call 24; refine (rests_any _ _).mono ?_; rintro e w' ⟨rfl, rfl⟩) | (go_at_call 27; refine (unless_any _ _ _).mono ?_; rintro e w' ⟨rfl, rfl⟩) | fail)
  all_goals go_ret
  all_goals refine ⟨ret_int ?_, by (repeat (first | with_reducible exact Below.refl _ _ | (with_reducible assumption) | (with_reducible refine below_alloc ?_ _) | (with_reducible refine below_ext (w1 := ?_) ?_ ?_; rotate_left 2; (with_reducible assumption)) | (with_reducible refine Below.setCell ?_ ?_ _; rotate_left; ((try simp) <;> omega)) | (with_reducible refine Below.drew ?_) | (with_reducible refine below_drewN ?_ _) | fail))⟩
  all_goals simp_all
theorem n3_any (hS : Blk w bs 23 y.arr) (hT : Blk w bt 32 #[.bool b, .int .i64 s]) (hC : Blk w bc 27 c.arr) (hp : I64 c.price) (hq : I64 c.qty) (hg : I64 y.grid) :
    Calls Try.prog 30 #[.pointer (some ⟨bs, 0, none⟩), .pointer (some ⟨bt, 0, none⟩), .pointer (some ⟨bc, 0, none⟩)] w (FPost (valF c.price c.qty y.grid (Sho.mayF b s (ordOf c 0)) (c.typ == 2)) w) := by
  have hK := Lib.hid (fun W => order_any c 0 W)
  have hV := Lib.hid (fun m W => values_any y b s (ordOf c 0) m hp hq hg W)
  go_enter Try.func30, Try.ntmps30
  go_wp2_with fail
  refine wp_region_below_lit (by kernel_rfl) (by kernel_rfl) ?_
  repeat (first | go_big_quiet_skip | (go_big_quiet_want; go_big_quiet_op; go_big_quiet_on) | (refine q_load_blk (by rfl) 23 _ (by rfl) ?_ (.pointer (some ⟨_, 0, none⟩)) (by rfl) ?_ _ (fun _ h => h) Try.underlying23 rfl ?_ ?_; rotate_left; (next => (repeat (first | (with_reducible refine BlkAt.new _ _ _ _ ?_; ((try simp) <;> omega)) | (with_reducible assumption) | (with_reducible refine Blk.at (t := ?_) ?_; rotate_left; with_reducible assumption) | with_reducible refine BlkAt.alloc ?_ _ | with_reducible refine BlkAt.drew ?_ | (with_reducible refine BlkAt.setSame ?_ _ _) | (with_reducible refine BlkAt.setCell ?_ ?_ _; rotate_left; ((try simp) <;> omega)) | (with_reducible refine BlkAt.ext (w := ?_) ?_ ?_; rotate_left 2; (with_reducible assumption)) | fail))); (next => kernel_rfl); (try simp only [Act.put, List.setIfInBounds_toArray, List.set_cons_zero, List.set_cons_succ])) | (refine q_load_blk (by rfl) 32 _ (by rfl) ?_ (.pointer (some ⟨_, 0, none⟩)) (by rfl) ?_ _ (fun _ h => h) Try.underlying32 rfl ?_ ?_; rotate_left; (next => (repeat (first | (with_reducible refine BlkAt.new _ _ _ _ ?_; ((try simp) <;> omega)) | (with_reducible assumption) | (with_reducible refine Blk.at (t := ?_) ?_; rotate_left; with_reducible assumption) | with_reducible refine BlkAt.alloc ?_ _ | with_reducible refine BlkAt.drew ?_ | (with_reducible refine BlkAt.setSame ?_ _ _) | (with_reducible refine BlkAt.setCell ?_ ?_ _; rotate_left; ((try simp) <;> omega)) | (with_reducible refine BlkAt.ext (w := ?_) ?_ ?_; rotate_left 2; (with_reducible assumption)) | fail))); (next => kernel_rfl); (try simp only [Act.put, List.setIfInBounds_toArray, List.set_cons_zero, List.set_cons_succ])) | (refine q_load_blk (by rfl) 27 _ (by rfl) ?_ (.pointer (some ⟨_, 0, none⟩)) (by rfl) ?_ _ (fun _ h => h) Try.underlying27 rfl ?_ ?_; rotate_left; (next => (repeat (first | (with_reducible refine BlkAt.new _ _ _ _ ?_; ((try simp) <;> omega)) | (with_reducible assumption) | (with_reducible refine Blk.at (t := ?_) ?_; rotate_left; with_reducible assumption) | with_reducible refine BlkAt.alloc ?_ _ | with_reducible refine BlkAt.drew ?_ | (with_reducible refine BlkAt.setSame ?_ _ _) | (with_reducible refine BlkAt.setCell ?_ ?_ _; rotate_left; ((try simp) <;> omega)) | (with_reducible refine BlkAt.ext (w := ?_) ?_ ?_; rotate_left 2; (with_reducible assumption)) | fail))); (next => kernel_rfl); (try simp only [Act.put, List.setIfInBounds_toArray, List.set_cons_zero, List.set_cons_succ])) | (refine q_load_fld (by rfl) _ _ (by rfl) (fun _ h => h) _ _ (by rfl) ?_ ?_ ?_ ?_ ?_ ?_; rotate_left; (next => (repeat (first | (with_reducible refine BlkAt.new _ _ _ _ ?_; ((try simp) <;> omega)) | (with_reducible assumption) | (with_reducible refine Blk.at (t := ?_) ?_; rotate_left; with_reducible assumption) | with_reducible refine BlkAt.alloc ?_ _ | with_reducible refine BlkAt.drew ?_ | (with_reducible refine BlkAt.setSame ?_ _ _) | (with_reducible refine BlkAt.setCell ?_ ?_ _; rotate_left; ((try simp) <;> omega)) | (with_reducible refine BlkAt.ext (w := ?_) ?_ ?_; rotate_left 2; (with_reducible assumption)) | fail))); rotate_left; (next => first | (simp only [go_sem]; rfl) | rfl); (next => kernel_rfl); (try simp only [Act.put, List.setIfInBounds_toArray, List.set_cons_zero, List.set_cons_succ])) | (refine q_rem (by rfl) _ _ _ _ (by rfl) _ _ (by rfl) (by rfl) (by kernel_rfl) (by kernel_rfl) ?_ ?_; (next => omega); (try simp only [Act.put, List.setIfInBounds_toArray, List.set_cons_zero, List.set_cons_succ])) | (refine q_step_ex (by rfl) ?_; apply Exists.intro; refine ⟨fun W hW => ?_, ?_⟩; (next => (have hWc := fun (b o : Nat) (h : b < _) => (Ext.out hW).cell (p := ⟨b, o, none⟩) h); (try have hLK := HLK.out W (Ext.out hW)); go_simp; first | rfl | (go_at_call 8; refine (hK.out _).mono ?_; rintro e w'' ⟨rfl, hb2⟩; exact ⟨rfl, below_ext hW hb2⟩) | (go_at_call 31; refine (hV.out _ _).mono ?_; rintro e w'' ⟨rfl, hb2⟩; exact ⟨rfl, below_ext hW hb2⟩) | fail); (try simp only [Act.put, List.setIfInBounds_toArray, List.set_cons_zero, List.set_cons_succ])) | fail)
  refine wpQuiet_nil ?_
  intro w1 hb1
  go_wp2_with fail
  go_ret
  exact ⟨rfl, hb1⟩
def nK : Nat → Nat
  | 0 => 26
  | 1 => 29
  | _ => 30
def nC (bs bc bt bp bm : Nat) : Nat → Array Value
  | 0 => #[.pointer (some ⟨bc, 0, none⟩)]
  | 1 => #[.pointer (some ⟨bp, 0, none⟩), .pointer (some ⟨bm, 0, none⟩)]
  | _ => #[.pointer (some ⟨bs, 0, none⟩), .pointer (some ⟨bt, 0, none⟩), .pointer (some ⟨bc, 0, none⟩)]
theorem nQ : ∀ k, k < 3 → ∀ args W, (callFunc (nK k) args).run Try.prog W = .ok (.enter (nK k) args) W
  | 0, _ => fun args W => callFunc_in (fn := Try.f26) (by kernel_rfl) (by kernel_rfl) rfl args W
  | 1, _ => fun args W => callFunc_in (fn := Try.f29) (by kernel_rfl) (by kernel_rfl) rfl args W
  | 2, _ => fun args W => callFunc_in (fn := Try.f30) (by kernel_rfl) (by kernel_rfl) rfl args W
  | n + 3, h => absurd h (by omega)
theorem new_core (hS : Blk w bs 23 y.arr) (hT : Blk w bt 32 #[.bool b, .int .i64 s]) (hC : Blk w bc 27 c.arr) (hP : w.cell? ⟨bp, 0, none⟩ = some (.int .i64 ph)) (hM : w.cell? ⟨bm, 0, none⟩ = some (.bool st)) (hst : stF c = st)
    (hF : Blk w g tf #[.func (.func 26) #[] #[.pointer (some ⟨bc, 0, none⟩)], .func (.func 29) #[] #[.pointer (some ⟨bp, 0, none⟩), .pointer (some ⟨bm, 0, none⟩)], .func (.func 30) #[] #[.pointer (some ⟨bs, 0, none⟩), .pointer (some ⟨bt, 0, none⟩), .pointer (some ⟨bc, 0, none⟩)]])
    (hp : I64 c.price) (hq : I64 c.qty) (hg : I64 y.grid) :
    Calls Try.prog 25 #[.slice (some ⟨g, 0, none⟩) 3 3] w (FPost (newF c ph y.grid (Sho.mayF b s (ordOf c 0))) w) := by
  subst hst
  refine first_any 3 g nK (nC bs bc bt bp bm) (nf c ph y.grid (Sho.mayF b s (ordOf c 0))) (by decide) ?_ nQ ?_
  · intro k hk
    rw [hF.cell]
    match k, hk with
    | 0, _ => rfl
    | 1, _ => rfl
    | 2, _ => rfl
  · intro k hk _ W hW
    match k, hk with
    | 0, _ => exact n1_any (hC.ext hW)
    | 1, _ => exact n2_any ((hW.cell (p := ⟨bp, 0, none⟩) (cell_lt hP)).trans hP) ((hW.cell (p := ⟨bm, 0, none⟩) (cell_lt hM)).trans hM)
    | 2, _ => exact n3_any (hS.ext hW) (hT.ext hW) (hC.ext hW) hp hq hg
end
theorem new_any (y : Sym) (ph : Int) (b : Bool) (s : Int) (c : Cmd) (hp : I64 c.price) (hq : I64 c.qty) (hg : I64 y.grid) (w : World) :
    Calls Try.prog 6 #[.agg y.arr, .int .i64 ph, .agg #[.bool b, .int .i64 s], .agg c.arr] w (FPost (newF c ph y.grid (Sho.mayF b s (ordOf c 0))) w) := by
  have hmf : ∀ (fn : Fn) (first cap : Array Value) (W : World), (Instr.makeFunc fn first cap).run Try.prog W = .ok (.func fn first cap) W := fun _ _ _ _ => rfl
  by_cases h1 : c.typ = 1
  · have hst : stF c = true := by simp [stF, h1]
    have k1 : (c.typ == 1) = true := by simp [h1]
    replace hst := Lib.hid hst
    clear h1
    go_enter Try.func6, Try.ntmps6
    go_wp2_with fail
    refine (new_core (y := y) (c := c) (b := b) (st := true) (s := s) (ph := ph) (bs := w.heap.size) (bp := w.heap.size + 1) (bt := w.heap.size + 1 + 1) (bc := w.heap.size + 1 + 1 + 1) (bm := w.heap.size + 1 + 1 + 1 + 1) (tf := 99) ?_ ?_ ?_ ?_ ?_ hst.out ?_ hp hq hg).mono ?_
    · exact (((((Blk.new _ _ _ _ rfl).alloc _).alloc _).alloc _).alloc _).alloc _
    · exact (((Blk.new _ _ _ _ (by simp only [sz_alloc])).alloc _).alloc _).alloc _
    · exact ((Blk.new _ _ _ _ (by simp only [sz_alloc])).alloc _).alloc _
    · exact (((((Blk.new _ _ _ _ (by simp only [sz_alloc])).alloc _).alloc _).alloc _).alloc _).cell 0
    · exact ((Blk.new _ _ _ _ (by simp only [sz_alloc])).alloc _).cell 0
    · exact Blk.new _ _ _ _ (by simp only [sz_alloc])
    rintro e w' ⟨rfl, hb1⟩
    go_wp2_with fail
    go_ret
    exact ⟨rfl, by (repeat (first | with_reducible exact Below.refl _ _ | (with_reducible assumption) | (with_reducible refine below_alloc ?_ _) | (with_reducible refine below_ext (w1 := ?_) ?_ ?_; rotate_left 2; (with_reducible assumption)) | (with_reducible refine Below.setCell ?_ ?_ _; rotate_left; ((try simp) <;> omega)) | (with_reducible refine Below.drew ?_) | (with_reducible refine below_drewN ?_ _) | fail))⟩
  · have hst : stF c = (c.typ == 5) := by simp [stF, h1]
    have k1 : (c.typ == 1) = false := by simp [h1]
    replace hst := Lib.hid hst
    clear h1
    go_enter Try.func6, Try.ntmps6
    go_wp2_with fail
    refine (new_core (y := y) (c := c) (b := b) (st := c.typ == 5) (s := s) (ph := ph) (bs := w.heap.size) (bp := w.heap.size + 1) (bt := w.heap.size + 1 + 1) (bc := w.heap.size + 1 + 1 + 1) (bm := w.heap.size + 1 + 1 + 1 + 1) (tf := 99) ?_ ?_ ?_ ?_ ?_ hst.out ?_ hp hq hg).mono ?_
    · exact (((((Blk.new _ _ _ _ rfl).alloc _).alloc _).alloc _).alloc _).alloc _
    · exact (((Blk.new _ _ _ _ (by simp only [sz_alloc])).alloc _).alloc _).alloc _
    · exact ((Blk.new _ _ _ _ (by simp only [sz_alloc])).alloc _).alloc _
    · exact (((((Blk.new _ _ _ _ (by simp only [sz_alloc])).alloc _).alloc _).alloc _).alloc _).cell 0
    · exact ((Blk.new _ _ _ _ (by simp only [sz_alloc])).alloc _).cell 0
    · exact Blk.new _ _ _ _ (by simp only [sz_alloc])
    rintro e w' ⟨rfl, hb1⟩
    go_wp2_with fail
    go_ret
    exact ⟨rfl, by (repeat (first | with_reducible exact Below.refl _ _ | (with_reducible assumption) | (with_reducible refine below_alloc ?_ _) | (with_reducible refine below_ext (w1 := ?_) ?_ ?_; rotate_left 2; (with_reducible assumption)) | (with_reducible refine Below.setCell ?_ ?_ _; rotate_left; ((try simp) <;> omega)) | (with_reducible refine Below.drew ?_) | (with_reducible refine below_drewN ?_ _) | fail))⟩
end Adm
end Go.Proofs.Ytbnappiaomiciaa
