/- This text proves what config.all says of numbers: that all lie from lo to hi. It has no conditions but those that it states. This text proves what config.first answers, whatever functions are handed in. It has no conditions but those that it states. This text proves what config.Symbol's rules answer, and that a symbol without a fault has a grid. It has no conditions but those that it states. -/
import Derived.Test.YtbnappiaomiciaaSwB
import Derived.Test.YtbnappiaomiciaaFirst
import Derived.Deep.DeepCutAuto
import Derived.Test.YtbnappiaomiciaaAdmV
namespace Go.Proofs.Ytbnappiaomiciaa
set_option linter.unusedVariables false
open Go.RowKit
namespace Cfg
set_option maxHeartbeats 1000000
set_option maxRecDepth 10000
def outF (lo hi n : Int) : Bool := decide (n < lo) || decide (hi < n)
theorem a1_any (n lo hi : Int) (bl bh : Nat) (w : World) (hl : w.cell? ⟨bl, 0, none⟩ = some (.int .i64 lo)) (hh : w.cell? ⟨bh, 0, none⟩ = some (.int .i64 hi)) :
    Calls Try.prog 46 #[.int .i64 n, .pointer (some ⟨bl, 0, none⟩), .pointer (some ⟨bh, 0, none⟩)] w fun e w' => e = .returned (.bool (outF lo hi n)) ∧ Below w.heap.size w w' := by
  by_cases h1 : n < lo
  · have HE := Lib.hid (show outF lo hi n = true by simp [outF, h1])
    have d1 : decide (n < lo) = true := decide_eq_true h1
    clear h1
    go_enter Try.func46, Try.ntmps46
    go_wp2_with fail
    go_ret
    exact ⟨by rw [HE.out]; rfl, Below.refl _ _⟩
  · have d1 : decide (n < lo) = false := decide_eq_false h1
    have HE := Lib.hid (show outF lo hi n = decide (hi < n) by simp [outF, h1])
    clear h1
    go_enter Try.func46, Try.ntmps46
    go_wp2_with fail
    go_ret
    exact ⟨by rw [HE.out]; rfl, Below.refl _ _⟩
theorem index_any (xs : List Int) (lo hi : Int) (bl bh : Nat) (A : Option Addr) (cap : Nat) (w : World) (hl : w.cell? ⟨bl, 0, none⟩ = some (.int .i64 lo)) (hh : w.cell? ⟨bh, 0, none⟩ = some (.int .i64 hi))
    (hr : Rd w 1 A (xs.map (fun x => [Value.int .i64 x]))) (hn : xs.length ≤ 100) :
    Calls Try.prog 66 #[.slice A xs.length cap, .func (.func 46) #[] #[.pointer (some ⟨bl, 0, none⟩), .pointer (some ⟨bh, 0, none⟩)]] w fun e w' => (∃ r : Int, e = .returned (.int .i64 r) ∧ decide (0 ≤ r) = xs.any (outF lo hi)) ∧ Below w.heap.size w w' := by
  have HR := Lib.hid hr
  have HL := Lib.hid hl
  have HH := Lib.hid hh
  clear hr hl hh
  go_enter Try.func66, Try.ntmps66
  go_wp2_with fail
  go_loopw [8] (fun iv wr => ∃ k : Nat, iv = .int .i64 k ∧ k ≤ xs.length ∧ Hid (xs.any (outF lo hi) = (xs.drop k).any (outF lo hi)) ∧ Below w.heap.size w wr) (fun iv _ => xs.length - (intOf iv).toNat)
  case atStart => exact ⟨0, rfl, Nat.zero_le _, Lib.hid rfl, Below.refl _ _⟩
  case round =>
    obtain ⟨k, rfl, hk, hF, hb⟩ := hrel
    by_cases hlt : k < xs.length
    · obtain ⟨ab, ao, rfl, hmid⟩ := Bk.rd_rngB (HR.out.below hb) hlt
      obtain ⟨x, hx⟩ : ∃ x, x = xs[k] := ⟨_, rfl⟩
      have c0 : wr.cell? ⟨ab, ao + k * 1, none⟩ = some (.int .i64 x) := by rw [hx]; exact hmid 0 _ rfl
      rw [Nat.mul_one] at c0
      have hd := hF.out
      rw [List.drop_eq_getElem_cons hlt, List.any_cons, ← hx] at hd
      have HA := Lib.hid (a1_any x lo hi bl bh wr ((hb.cell (cell_lt HL.out)).trans HL.out) ((hb.cell (cell_lt HH.out)).trans HH.out))
      have HLT := Lib.hid hlt
      clear hmid hx hF
      cases ho : outF lo hi x with
      | true =>
        rw [ho] at hd HA
        replace hd := Lib.hid hd
        clear ho
        go_wp2_with (first | ((with_reducible refine HA.out.mono ?_); rintro e w1 ⟨rfl, hb1⟩) | fail)
        go_ret
        exact ⟨⟨_, rfl, by rw [hd.out]; simp⟩, below_ext hb hb1⟩
      | false =>
        rw [ho] at hd HA
        rw [Bool.false_or] at hd
        replace hd := Lib.hid hd
        clear ho
        go_wp2_with (first | ((with_reducible refine HA.out.mono ?_); rintro e w1 ⟨rfl, hb1⟩) | fail)
        go_roundw
        case rel => exact ⟨k + 1, by go_num, HLT.out, hd, below_ext hb hb1⟩
        case measure => (have := HLT.out; simp [intOf]; omega)
    · have hk' : k = xs.length := by omega
      subst hk'
      go_wp2_with fail
      go_ret
      exact ⟨⟨_, rfl, by rw [hF.out]; simp⟩, hb⟩
theorem all_any (xs : List Int) (lo hi : Int) (A : Option Addr) (cap : Nat) (w : World) (hr : Rd w 1 A (xs.map (fun x => [Value.int .i64 x]))) (hn : xs.length ≤ 100) :
    Calls Try.prog 14 #[.int .i64 lo, .int .i64 hi, .slice A xs.length cap] w fun e w' => e = .returned (.bool (!xs.any (outF lo hi))) ∧ Below w.heap.size w w' := by
  have HR := Lib.hid hr
  have HI := Lib.hid (fun W bl bh hl hh hR => index_any xs lo hi bl bh A cap W hl hh hR hn)
  have HC : Hid (∀ (W : World) (bl bh : Nat), W.cell? ⟨bl, 0, none⟩ = some (.int .i64 lo) → W.cell? ⟨bh, 0, none⟩ = some (.int .i64 hi) → Rd W 1 A (xs.map (fun x => [Value.int .i64 x])) →
      Calls Try.prog 45 #[.slice A xs.length cap, .func (.func 46) #[] #[.pointer (some ⟨bl, 0, none⟩), .pointer (some ⟨bh, 0, none⟩)]] W fun e w' => e = .returned (.bool (xs.any (outF lo hi))) ∧ Below W.heap.size W w') := Lib.hid (by
    intro W bl bh hl hh hR
    have HI2 := Lib.hid (HI.out W bl bh hl hh hR)
    clear hl hh hR HI HR hr
    go_enter Try.func45, Try.ntmps45
    go_wp2_with fail
    refine HI2.out.mono ?_
    rintro e w1 ⟨⟨r, rfl, hr⟩, hb1⟩
    replace hr := Lib.hid hr
    go_wp2_with fail
    go_ret
    exact ⟨by rw [← hr.out]; rfl, hb1⟩)
  clear hr
  have hb0 : Below w.heap.size w ((w.alloc (.cells #[.int .i64 lo] 2)).alloc (.cells #[.int .i64 hi] 2)) := by (repeat (first | with_reducible exact Below.refl _ _ | (with_reducible assumption) | (with_reducible refine below_alloc ?_ _) | (with_reducible refine below_ext (w1 := ?_) ?_ ?_; rotate_left 2; (with_reducible assumption)) | (with_reducible refine Below.setCell ?_ ?_ _; rotate_left; ((try simp) <;> omega)) | (with_reducible refine Below.drew ?_) | (with_reducible refine below_drewN ?_ _) | fail))
  have HC2 := Lib.hid (HC.out ((w.alloc (.cells #[.int .i64 lo] 2)).alloc (.cells #[.int .i64 hi] 2)) w.heap.size (w.heap.size + 1) (((Blk.new w _ _ _ rfl).alloc _).cell 0) ((Blk.new _ _ _ _ (sz_alloc _ _)).cell 0) (HR.out.below hb0))
  clear HC HI HR
  go_enter Try.func14, Try.ntmps14
  go_wp2_with fail
  refine HC2.out.mono ?_
  rintro e w1 ⟨rfl, hb1⟩
  go_wp2_with fail
  go_ret
  exact ⟨rfl, below_ext hb0 hb1⟩
end Cfg
end Go.Proofs.Ytbnappiaomiciaa
namespace Go.Proofs.Ytbnappiaomiciaa
set_option linter.unusedVariables false
open Go.RowKit
namespace Cfg
set_option maxHeartbeats 1000000
set_option maxRecDepth 10000
/-- A rule's function answers. -/
def RPost (b : Bool) (w : World) (e : Ending) (w' : World) : Prop := e = .returned (.bool b) ∧ Below w.heap.size w w'
theorem cfirst_any (n g : Nat) (K : Nat → Nat) (caps : Nat → Array Value) (flt : Nat → Int) (f : Nat → Bool) (hn : n ≤ 100) (hz : ∀ k, k < n → flt k ≠ 0) {w : World}
    (hc : ∀ k, k < n → w.rangeAt g (k * 2) [.func (.func (K k)) #[] (caps k), .int .i64 (flt k)])
    (hq : ∀ k, k < n → ∀ args W, (callFunc (K k) args).run Try.prog W = .ok (.enter (K k) args) W)
    (hk : ∀ k, k < n → ∀ W, Below w.heap.size w W → Calls Try.prog (K k) (caps k) W (RPost (f k) W)) :
    Calls Try.prog 12 #[.slice (some ⟨g, 0, none⟩) n n] w fun e w' => (∃ x : Int, e = .returned (.int .i64 x) ∧ (x = 0 → ∀ k, k < n → f k = true)) ∧ Below w.heap.size w w' := by
  replace hc := Lib.hid hc
  replace hk := Lib.hid hk
  replace hq := Lib.hid hq
  replace hz := Lib.hid hz
  go_enter Try.func12, Try.ntmps12
  go_wp2_with fail
  go_loopw [7] (fun i wr => ∃ k : Nat, i = .int .i64 k ∧ k ≤ n ∧ Hid (∀ j, j < k → f j = true) ∧ Below w.heap.size w wr) (fun i _ => n - (intOf i).toNat)
  case atStart => exact ⟨0, rfl, Nat.zero_le _, Lib.hid (fun j hj => absurd hj (Nat.not_lt_zero j)), Below.refl _ _⟩
  case round =>
    obtain ⟨k, rfl, hkn, hF, hb⟩ := hrel
    by_cases hlt : k < n
    · have hmid : wr.rangeAt g (k * 2) [.func (.func (K k)) #[] (caps k), .int .i64 (flt k)] := fun j v hv => (hb.cell (cell_lt (hc.out k hlt j v hv))).trans (hc.out k hlt j v hv)
      have HK := Lib.hid (hk.out k hlt)
      have hq1 := hq.out k hlt
      have hz1 := Lib.hid (hz.out k hlt)
      have hF2 := Lib.hid (fun (h : f k = true) j (hj : j < k + 1) => by
        rcases Nat.lt_or_ge j k with h1 | h1
        · exact hF.out j h1
        · exact (show j = k by omega) ▸ h)
      have HLT := Lib.hid hlt
      clear hF hk hc hq hz
      generalize flt k = fk at *
      generalize K k = kk at *
      generalize caps k = cc at *
      have hX0 : Blk (wr.alloc (.cells #[.nilFunc, .int .i64 0] 46)) wr.heap.size 46 #[.nilFunc, .int .i64 0] := Blk.new _ _ _ _ rfl
      cases hf : f k with
      | false =>
        rw [hf] at HK
        clear hf hF2
        go_wp2_with (first | (refine wpList_load_mid (by rfl) _ _ (by rfl) _ _ (by rfl) _ _ hmid Try.underlying46 rfl (by kernel_rfl) ?_) | (((with_reducible show wpList _ _ _ (⟨_, .store 46 _ _, _, _, _, _⟩ :: _) _ _); refine wpList_store_blk (by rfl) 46 _ _ (by rfl) _ _ (by rfl) (by rfl) _ _ hX0 (by kernel_rfl) (by rfl) ?_ ?_; (next => first | (simp [Value.oneCell']; done) | (simp [Value.oneCell', Edt.cells]; done) | exact Are.ordArr_one _); intro w5 hX5 hU5); have hb5 : Below wr.heap.size wr w5 := below_upd (by (repeat (first | with_reducible exact Below.refl _ _ | (with_reducible assumption) | (with_reducible refine below_alloc ?_ _) | (with_reducible refine below_ext (w1 := ?_) ?_ ?_; rotate_left 2; (with_reducible assumption)) | (with_reducible refine Below.setCell ?_ ?_ _; rotate_left; ((try simp) <;> omega)) | (with_reducible refine Below.drew ?_) | (with_reducible refine below_drewN ?_ _) | fail))) (Nat.le_refl _) hU5; have x0 : w5.cell? ⟨wr.heap.size, 0, none⟩ = some (.func (.func kk) #[] cc) := hX5.cell 0; have x1 : w5.cell? ⟨wr.heap.size, 1, none⟩ = some (.int .i64 fk) := hX5.cell 1; have HK5 := Lib.hid (HK.out w5 (below_ext hb hb5)); clear HK hX5 hU5 hX0) | ((with_reducible refine HK5.out.mono ?_); rintro e w6 ⟨rfl, hb6⟩; have y1 := (hb6.cell (cell_lt x1)).trans x1) | fail)
        go_ret
        exact ⟨⟨_, rfl, fun h => absurd h hz1.out⟩, below_ext hb (below_ext hb5 hb6)⟩
      | true =>
        have hF3 := Lib.hid (hF2.out hf)
        rw [hf] at HK
        clear hf hF2
        go_wp2_with (first | (refine wpList_load_mid (by rfl) _ _ (by rfl) _ _ (by rfl) _ _ hmid Try.underlying46 rfl (by kernel_rfl) ?_) | (((with_reducible show wpList _ _ _ (⟨_, .store 46 _ _, _, _, _, _⟩ :: _) _ _); refine wpList_store_blk (by rfl) 46 _ _ (by rfl) _ _ (by rfl) (by rfl) _ _ hX0 (by kernel_rfl) (by rfl) ?_ ?_; (next => first | (simp [Value.oneCell']; done) | (simp [Value.oneCell', Edt.cells]; done) | exact Are.ordArr_one _); intro w5 hX5 hU5); have hb5 : Below wr.heap.size wr w5 := below_upd (by (repeat (first | with_reducible exact Below.refl _ _ | (with_reducible assumption) | (with_reducible refine below_alloc ?_ _) | (with_reducible refine below_ext (w1 := ?_) ?_ ?_; rotate_left 2; (with_reducible assumption)) | (with_reducible refine Below.setCell ?_ ?_ _; rotate_left; ((try simp) <;> omega)) | (with_reducible refine Below.drew ?_) | (with_reducible refine below_drewN ?_ _) | fail))) (Nat.le_refl _) hU5; have x0 : w5.cell? ⟨wr.heap.size, 0, none⟩ = some (.func (.func kk) #[] cc) := hX5.cell 0; have HK5 := Lib.hid (HK.out w5 (below_ext hb hb5)); clear HK hX5 hU5 hX0) | ((with_reducible refine HK5.out.mono ?_); rintro e w6 ⟨rfl, hb6⟩) | fail)
        go_roundw
        case rel => exact ⟨k + 1, by go_num, HLT.out, hF3, below_ext hb (below_ext hb5 hb6)⟩
        case measure => (have := HLT.out; simp [intOf]; omega)
    · have hke : k = n := by omega
      subst hke
      go_wp2_with fail
      go_ret
      exact ⟨⟨_, rfl, fun _ => hF.out⟩, hb⟩
end Cfg
end Go.Proofs.Ytbnappiaomiciaa
namespace Go.Proofs.Ytbnappiaomiciaa
set_option linter.unusedVariables false
open Go.RowKit
namespace Cfg
set_option maxHeartbeats 4000000
set_option maxRecDepth 10000
theorem flat1 (xs : List Int) : (xs.map (fun x => [Value.int .i64 x])).flatten = xs.map (fun x => Value.int .i64 x) := by
  induction xs with
  | nil => rfl
  | cons x xs ih => simp only [List.map_cons, List.flatten_cons, ih]; rfl
theorem rd1 {w : World} {g : Nat} {t : TypeId} (xs : List Int) (h : Blk w g t (xs.map (fun x => Value.int .i64 x)).toArray) : Rd w 1 (some ⟨g, 0, none⟩) (xs.map (fun x => [Value.int .i64 x])) :=
  rd_own (n := xs.length) h (by simp) (by rw [flat1, Nat.mul_one]; exact List.take_of_length_le (by simp))
theorem all_new (xs : List Int) (lo hi : Int) (w : World) (hn : xs.length ≤ 100) (t : TypeId) :
    Calls Try.prog 14 #[.int .i64 lo, .int .i64 hi, .slice (some ⟨w.heap.size, 0, none⟩) xs.length xs.length] (w.alloc (.cells (xs.map (fun x => Value.int .i64 x)).toArray t)) fun e w' => e = .returned (.bool (!xs.any (outF lo hi))) ∧ Below w.heap.size w w' :=
  (all_any xs lo hi _ _ _ (rd1 xs (Blk.new _ _ _ _ rfl)) hn).mono fun e w' ⟨h1, h2⟩ => ⟨h1, below_ext (by (repeat (first | with_reducible exact Below.refl _ _ | (with_reducible assumption) | (with_reducible refine below_alloc ?_ _) | (with_reducible refine below_ext (w1 := ?_) ?_ ?_; rotate_left 2; (with_reducible assumption)) | (with_reducible refine Below.setCell ?_ ?_ _; rotate_left; ((try simp) <;> omega)) | (with_reducible refine Below.drew ?_) | (with_reducible refine below_drewN ?_ _) | fail))) h2⟩
section
variable {w : World} {y : Sym} {bs : Nat}
def b1 (y : Sym) : Bool := ![y.grid, y.ref].any (outF 1 1099511627776)
theorem s1_any (hS : Blk w bs 23 y.arr) : Calls Try.prog 13 #[.pointer (some ⟨bs, 0, none⟩)] w (RPost (b1 y) w) := by
  have c0 : w.cell? ⟨bs, 0, none⟩ = some (.int .i64 y.grid) := hS.cell 0
  have c1 : w.cell? ⟨bs, 1, none⟩ = some (.int .i64 y.ref) := hS.cell 1
  have HA : Hid (∀ (W : World) (t : TypeId), Calls Try.prog 14 #[.int .i64 1, .int .i64 1099511627776, .slice (some ⟨W.heap.size, 0, none⟩) 2 2] (W.alloc (.cells #[.int .i64 y.grid, .int .i64 y.ref] t)) fun e w' => e = .returned (.bool (b1 y)) ∧ Below W.heap.size W w') := Lib.hid (fun W t => all_new [y.grid, y.ref] 1 1099511627776 W (by simp) t)
  generalize b1 y = bb at *
  clear hS
  go_enter Try.func13, Try.ntmps13
  go_wp2_with (first | (go_at_call 14; refine (HA.out _ _).mono ?_; rintro e w1 ⟨rfl, hb1⟩) | fail)
  go_ret
  exact ⟨rfl, hb1⟩
def b2 (y : Sym) : Bool := Adm.priceG y.ref y.grid == 0
theorem s2_any (hS : Blk w bs 23 y.arr) (hp : I64 y.ref) (hg : I64 y.grid) : Calls Try.prog 15 #[.pointer (some ⟨bs, 0, none⟩)] w (RPost (b2 y) w) := by
  have c0 : w.cell? ⟨bs, 0, none⟩ = some (.int .i64 y.grid) := hS.cell 0
  have c1 : w.cell? ⟨bs, 1, none⟩ = some (.int .i64 y.ref) := hS.cell 1
  have HA := Lib.hid (fun W => Adm.fprice_any y.ref y.grid hp hg W)
  have HB := Lib.hid (show b2 y = (Adm.priceG y.ref y.grid == 0) from rfl)
  generalize b2 y = bb at *
  generalize Adm.priceG y.ref y.grid = pg at *
  clear hS hp hg
  go_enter Try.func15, Try.ntmps15
  go_wp2_with (first | (go_at_call 16; refine (HA.out _).mono ?_; rintro e w1 ⟨rfl, rfl⟩) | fail)
  go_ret
  exact ⟨by rw [HB.out]; rfl, Below.refl _ _⟩
def b3 (y : Sym) : Bool := ![y.static, y.dynamic, y.move, y.collar, y.widen, y.short].any (outF 0 9999)
theorem s3_any (hS : Blk w bs 23 y.arr) : Calls Try.prog 17 #[.pointer (some ⟨bs, 0, none⟩)] w (RPost (b3 y) w) := by
  have c2 : w.cell? ⟨bs, 2, none⟩ = some (.int .i64 y.static) := hS.cell 2
  have c3 : w.cell? ⟨bs, 3, none⟩ = some (.int .i64 y.dynamic) := hS.cell 3
  have c5 : w.cell? ⟨bs, 5, none⟩ = some (.int .i64 y.move) := hS.cell 5
  have c10 : w.cell? ⟨bs, 10, none⟩ = some (.int .i64 y.collar) := hS.cell 10
  have c11 : w.cell? ⟨bs, 11, none⟩ = some (.int .i64 y.widen) := hS.cell 11
  have c15 : w.cell? ⟨bs, 15, none⟩ = some (.int .i64 y.short) := hS.cell 15
  have HA : Hid (∀ (W : World) (t : TypeId), Calls Try.prog 14 #[.int .i64 0, .int .i64 9999, .slice (some ⟨W.heap.size, 0, none⟩) 6 6] (W.alloc (.cells #[.int .i64 y.static, .int .i64 y.dynamic, .int .i64 y.move, .int .i64 y.collar, .int .i64 y.widen, .int .i64 y.short] t)) fun e w' => e = .returned (.bool (b3 y)) ∧ Below W.heap.size W w') := Lib.hid (fun W t => all_new [y.static, y.dynamic, y.move, y.collar, y.widen, y.short] 0 9999 W (by simp) t)
  generalize b3 y = bb at *
  clear hS
  go_enter Try.func17, Try.ntmps17
  go_wp2_with (first | (go_at_call 14; refine (HA.out _ _).mono ?_; rintro e w1 ⟨rfl, hb1⟩) | fail)
  go_ret
  exact ⟨rfl, hb1⟩
def b4 (y : Sym) : Bool := ![y.window, y.limit, y.pause, y.ext].any (outF 1 1099511627776)
theorem s4_any (hS : Blk w bs 23 y.arr) : Calls Try.prog 18 #[.pointer (some ⟨bs, 0, none⟩)] w (RPost (b4 y) w) := by
  have c4 : w.cell? ⟨bs, 4, none⟩ = some (.int .i64 y.window) := hS.cell 4
  have c6 : w.cell? ⟨bs, 6, none⟩ = some (.int .i64 y.limit) := hS.cell 6
  have c7 : w.cell? ⟨bs, 7, none⟩ = some (.int .i64 y.pause) := hS.cell 7
  have c8 : w.cell? ⟨bs, 8, none⟩ = some (.int .i64 y.ext) := hS.cell 8
  have HA : Hid (∀ (W : World) (t : TypeId), Calls Try.prog 14 #[.int .i64 1, .int .i64 1099511627776, .slice (some ⟨W.heap.size, 0, none⟩) 4 4] (W.alloc (.cells #[.int .i64 y.window, .int .i64 y.limit, .int .i64 y.pause, .int .i64 y.ext] t)) fun e w' => e = .returned (.bool (b4 y)) ∧ Below W.heap.size W w') := Lib.hid (fun W t => all_new [y.window, y.limit, y.pause, y.ext] 1 1099511627776 W (by simp) t)
  generalize b4 y = bb at *
  clear hS
  go_enter Try.func18, Try.ntmps18
  go_wp2_with (first | (go_at_call 14; refine (HA.out _ _).mono ?_; rintro e w1 ⟨rfl, hb1⟩) | fail)
  go_ret
  exact ⟨rfl, hb1⟩
def b5 (y : Sym) : Bool := (!(outF 0 10 y.maxExt)) && (!(outF 0 3 y.self))
theorem s5_any (hS : Blk w bs 23 y.arr) : Calls Try.prog 19 #[.pointer (some ⟨bs, 0, none⟩)] w (RPost (b5 y) w) := by
  have c0 : w.cell? ⟨bs, 9, none⟩ = some (.int .i64 y.maxExt) := hS.cell 9
  have c1 : w.cell? ⟨bs, 12, none⟩ = some (.int .i64 y.self) := hS.cell 12
  have HA : Hid (∀ (W : World) (t : TypeId), Calls Try.prog 14 #[.int .i64 0, .int .i64 10, .slice (some ⟨W.heap.size, 0, none⟩) 1 1] (W.alloc (.cells #[.int .i64 y.maxExt] t)) fun e w' => e = .returned (.bool (!(outF 0 10 y.maxExt))) ∧ Below W.heap.size W w') := Lib.hid (fun W t => (all_new [y.maxExt] 0 10 W (by simp) t).mono fun e w' ⟨h1, h2⟩ => ⟨by rw [h1]; simp, h2⟩)
  have HA2 : Hid (∀ (W : World) (t : TypeId), Calls Try.prog 14 #[.int .i64 0, .int .i64 3, .slice (some ⟨W.heap.size, 0, none⟩) 1 1] (W.alloc (.cells #[.int .i64 y.self] t)) fun e w' => e = .returned (.bool (!(outF 0 3 y.self))) ∧ Below W.heap.size W w') := Lib.hid (fun W t => (all_new [y.self] 0 3 W (by simp) t).mono fun e w' ⟨h1, h2⟩ => ⟨by rw [h1]; simp, h2⟩)
  have HB := Lib.hid (show b5 y = ((!(outF 0 10 y.maxExt)) && (!(outF 0 3 y.self))) from rfl)
  generalize b5 y = bb at *
  generalize (!(outF 0 10 y.maxExt)) = p at *
  generalize (!(outF 0 3 y.self)) = q at *
  clear hS
  cases p
  · go_enter Try.func19, Try.ntmps19
    go_wp2_with (first | (go_at_call 14; (with_reducible refine (HA.out _ _).mono ?_); rintro e w1 ⟨rfl, hb1⟩; have d1 := (hb1.cell (cell_lt c1)).trans c1) | (go_at_call 14; (with_reducible refine (HA2.out _ _).mono ?_); rintro e w2 ⟨rfl, hb2⟩) | fail)
    go_ret
    exact ⟨by rw [HB.out]; rfl, hb1⟩
  · go_enter Try.func19, Try.ntmps19
    go_wp2_with (first | (go_at_call 14; (with_reducible refine (HA.out _ _).mono ?_); rintro e w1 ⟨rfl, hb1⟩; have d1 := (hb1.cell (cell_lt c1)).trans c1) | (go_at_call 14; (with_reducible refine (HA2.out _ _).mono ?_); rintro e w2 ⟨rfl, hb2⟩) | fail)
    go_ret
    exact ⟨by rw [HB.out]; rfl, below_ext hb1 hb2⟩
def b6 (y : Sym) : Bool := (!(outF 1 500 y.slots)) && (!(outF 1 200 y.levels))
theorem s6_any (hS : Blk w bs 23 y.arr) : Calls Try.prog 20 #[.pointer (some ⟨bs, 0, none⟩)] w (RPost (b6 y) w) := by
  have c0 : w.cell? ⟨bs, 13, none⟩ = some (.int .i64 y.slots) := hS.cell 13
  have c1 : w.cell? ⟨bs, 14, none⟩ = some (.int .i64 y.levels) := hS.cell 14
  have HA : Hid (∀ (W : World) (t : TypeId), Calls Try.prog 14 #[.int .i64 1, .int .i64 500, .slice (some ⟨W.heap.size, 0, none⟩) 1 1] (W.alloc (.cells #[.int .i64 y.slots] t)) fun e w' => e = .returned (.bool (!(outF 1 500 y.slots))) ∧ Below W.heap.size W w') := Lib.hid (fun W t => (all_new [y.slots] 1 500 W (by simp) t).mono fun e w' ⟨h1, h2⟩ => ⟨by rw [h1]; simp, h2⟩)
  have HA2 : Hid (∀ (W : World) (t : TypeId), Calls Try.prog 14 #[.int .i64 1, .int .i64 200, .slice (some ⟨W.heap.size, 0, none⟩) 1 1] (W.alloc (.cells #[.int .i64 y.levels] t)) fun e w' => e = .returned (.bool (!(outF 1 200 y.levels))) ∧ Below W.heap.size W w') := Lib.hid (fun W t => (all_new [y.levels] 1 200 W (by simp) t).mono fun e w' ⟨h1, h2⟩ => ⟨by rw [h1]; simp, h2⟩)
  have HB := Lib.hid (show b6 y = ((!(outF 1 500 y.slots)) && (!(outF 1 200 y.levels))) from rfl)
  generalize b6 y = bb at *
  generalize (!(outF 1 500 y.slots)) = p at *
  generalize (!(outF 1 200 y.levels)) = q at *
  clear hS
  cases p
  · go_enter Try.func20, Try.ntmps20
    go_wp2_with (first | (go_at_call 14; (with_reducible refine (HA.out _ _).mono ?_); rintro e w1 ⟨rfl, hb1⟩; have d1 := (hb1.cell (cell_lt c1)).trans c1) | (go_at_call 14; (with_reducible refine (HA2.out _ _).mono ?_); rintro e w2 ⟨rfl, hb2⟩) | fail)
    go_ret
    exact ⟨by rw [HB.out]; rfl, hb1⟩
  · go_enter Try.func20, Try.ntmps20
    go_wp2_with (first | (go_at_call 14; (with_reducible refine (HA.out _ _).mono ?_); rintro e w1 ⟨rfl, hb1⟩; have d1 := (hb1.cell (cell_lt c1)).trans c1) | (go_at_call 14; (with_reducible refine (HA2.out _ _).mono ?_); rintro e w2 ⟨rfl, hb2⟩) | fail)
    go_ret
    exact ⟨by rw [HB.out]; rfl, below_ext hb1 hb2⟩
def b7 (y : Sym) : Bool := decide (y.dynamic ≤ y.static)
theorem s7_any (hS : Blk w bs 23 y.arr) : Calls Try.prog 21 #[.pointer (some ⟨bs, 0, none⟩)] w (RPost (b7 y) w) := by
  have c0 : w.cell? ⟨bs, 2, none⟩ = some (.int .i64 y.static) := hS.cell 2
  have c1 : w.cell? ⟨bs, 3, none⟩ = some (.int .i64 y.dynamic) := hS.cell 3
  clear hS
  go_enter Try.func21, Try.ntmps21
  go_wp2_with fail
  go_ret
  exact ⟨rfl, Below.refl _ _⟩
def kS : Nat → Nat
  | 0 => 13
  | 1 => 15
  | 2 => 17
  | 3 => 18
  | 4 => 19
  | 5 => 20
  | _ => 21
def fltS : Nat → Int
  | 1 => 8
  | 6 => 11
  | _ => 9
def bS (y : Sym) : Nat → Bool
  | 0 => b1 y
  | 1 => b2 y
  | 2 => b3 y
  | 3 => b4 y
  | 4 => b5 y
  | 5 => b6 y
  | _ => b7 y
theorem kQ : ∀ k, k < 7 → ∀ args W, (callFunc (kS k) args).run Try.prog W = .ok (.enter (kS k) args) W
  | 0, _ => fun args W => Adm.callFunc_in (fn := Try.f13) (by kernel_rfl) (by kernel_rfl) rfl args W
  | 1, _ => fun args W => Adm.callFunc_in (fn := Try.f15) (by kernel_rfl) (by kernel_rfl) rfl args W
  | 2, _ => fun args W => Adm.callFunc_in (fn := Try.f17) (by kernel_rfl) (by kernel_rfl) rfl args W
  | 3, _ => fun args W => Adm.callFunc_in (fn := Try.f18) (by kernel_rfl) (by kernel_rfl) rfl args W
  | 4, _ => fun args W => Adm.callFunc_in (fn := Try.f19) (by kernel_rfl) (by kernel_rfl) rfl args W
  | 5, _ => fun args W => Adm.callFunc_in (fn := Try.f20) (by kernel_rfl) (by kernel_rfl) rfl args W
  | 6, _ => fun args W => Adm.callFunc_in (fn := Try.f21) (by kernel_rfl) (by kernel_rfl) rfl args W
  | n + 7, h => absurd h (by omega)
theorem sym_core {g : Nat} {tf : TypeId} (hS : Blk w bs 23 y.arr) (hp : I64 y.ref) (hg : I64 y.grid)
    (hF : Blk w g tf #[.func (.func 13) #[] #[.pointer (some ⟨bs, 0, none⟩)], .int .i64 9, .func (.func 15) #[] #[.pointer (some ⟨bs, 0, none⟩)], .int .i64 8, .func (.func 17) #[] #[.pointer (some ⟨bs, 0, none⟩)], .int .i64 9, .func (.func 18) #[] #[.pointer (some ⟨bs, 0, none⟩)], .int .i64 9, .func (.func 19) #[] #[.pointer (some ⟨bs, 0, none⟩)], .int .i64 9, .func (.func 20) #[] #[.pointer (some ⟨bs, 0, none⟩)], .int .i64 9, .func (.func 21) #[] #[.pointer (some ⟨bs, 0, none⟩)], .int .i64 11]) :
    Calls Try.prog 12 #[.slice (some ⟨g, 0, none⟩) 7 7] w fun e w' => (∃ x : Int, e = .returned (.int .i64 x) ∧ (x = 0 → 1 ≤ y.grid)) ∧ Below w.heap.size w w' := by
  refine (cfirst_any 7 g kS (fun _ => #[.pointer (some ⟨bs, 0, none⟩)]) fltS (bS y) (by decide) ?_ ?_ kQ ?_).mono ?_
  · intro k hk
    match k, hk with
    | 0, _ => exact (by decide)
    | 1, _ => exact (by decide)
    | 2, _ => exact (by decide)
    | 3, _ => exact (by decide)
    | 4, _ => exact (by decide)
    | 5, _ => exact (by decide)
    | 6, _ => exact (by decide)
  · intro k hk j v hv
    rw [hF.cell]
    have hj : j < 2 := (List.getElem?_eq_some_iff.1 hv).1
    match k, hk, j, hj, hv with
    | 0, _, 0, _, hv | 0, _, 1, _, hv => exact hv
    | 1, _, 0, _, hv | 1, _, 1, _, hv => exact hv
    | 2, _, 0, _, hv | 2, _, 1, _, hv => exact hv
    | 3, _, 0, _, hv | 3, _, 1, _, hv => exact hv
    | 4, _, 0, _, hv | 4, _, 1, _, hv => exact hv
    | 5, _, 0, _, hv | 5, _, 1, _, hv => exact hv
    | 6, _, 0, _, hv | 6, _, 1, _, hv => exact hv
  · intro k hk W hW
    match k, hk with
    | 0, _ => exact s1_any (hS.ext hW)
    | 1, _ => exact s2_any (hS.ext hW) hp hg
    | 2, _ => exact s3_any (hS.ext hW)
    | 3, _ => exact s4_any (hS.ext hW)
    | 4, _ => exact s5_any (hS.ext hW)
    | 5, _ => exact s6_any (hS.ext hW)
    | 6, _ => exact s7_any (hS.ext hW)
  · rintro e w' ⟨⟨x, h1, h2⟩, h3⟩
    refine ⟨⟨x, h1, fun h => ?_⟩, h3⟩
    have h4 := h2 h 0 (by decide)
    simp only [bS, b1, outF, List.any_cons, List.any_nil, Bool.or_false, Bool.not_eq_true', Bool.or_eq_false_iff, decide_eq_false_iff_not] at h4
    omega
theorem symbol_any (y : Sym) (hp : I64 y.ref) (hg : I64 y.grid) (w : World) : Calls Try.prog 4 #[.agg y.arr] w fun e w' => (∃ x : Int, e = .returned (.int .i64 x) ∧ (x = 0 → 1 ≤ y.grid)) ∧ Below w.heap.size w w' := by
  have hmf : ∀ (fn : Fn) (first cap : Array Value) (W : World), (Instr.makeFunc fn first cap).run Try.prog W = .ok (.func fn first cap) W := fun _ _ _ _ => rfl
  go_enter Try.func4, Try.ntmps4
  go_wp2_with fail
  refine (sym_core (y := y) (bs := w.heap.size) (tf := 46) ?_ hp hg ?_).mono ?_
  · exact (Blk.new _ _ _ _ rfl).alloc _
  · exact Blk.new _ _ _ _ (by simp only [sz_alloc])
  rintro e w' ⟨⟨x, rfl, hx⟩, hb1⟩
  replace hx := Lib.hid hx
  go_wp2_with fail
  go_ret
  exact ⟨⟨x, rfl, hx.out⟩, by (repeat (first | with_reducible exact Below.refl _ _ | (with_reducible assumption) | (with_reducible refine below_alloc ?_ _) | (with_reducible refine below_ext (w1 := ?_) ?_ ?_; rotate_left 2; (with_reducible assumption)) | (with_reducible refine Below.setCell ?_ ?_ _; rotate_left; ((try simp) <;> omega)) | (with_reducible refine Below.drew ?_) | (with_reducible refine below_drewN ?_ _) | fail))⟩
end
end Cfg
end Go.Proofs.Ytbnappiaomiciaa
