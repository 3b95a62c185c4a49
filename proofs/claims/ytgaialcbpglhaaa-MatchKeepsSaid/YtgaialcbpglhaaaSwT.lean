/- This text proves what sweep.Traded and sweep.Reaches answer, and the document's Reaches. It has no conditions but those that it states. -/
import Derived.Test.YtgaialcbpglhaaaSwM
import Derived.Test.YtgaialcbpglhaaaSwB
import Derived.Test.YtgaialcbpglhaaaFix
namespace Go.Proofs.Ytgaialcbpglhaaa
set_option linter.unusedVariables false
open Go.RowKit
namespace Sw
set_option maxHeartbeats 4000000
set_option maxRecDepth 10000
open Bk (bet Bs osOf srt Sl)
theorem owns_fl {w : World} {B : Nat} {v : Value} {l : List Fl} (h : w.ownsRow B 71 4 v l.length (flatF l)) : ∃ A cap, v = .slice A l.length cap ∧ Rd w 4 A (l.map Fl.cells) ∧ l.length ≤ cap ∧ (A = none → cap = 0) ∧ ∀ a, A = some a → B ≤ a.block ∧ a.block < w.heap.size := by
  rcases h.2 with ⟨rfl, h0⟩ | ⟨g, cap, cur, rfl, hb, hg, hc, _, _, ht⟩
  · rw [h0]
    have : l = [] := List.eq_nil_of_length_eq_zero h0
    subst this
    exact ⟨none, 0, rfl, fun hne => absurd rfl hne, Nat.le_refl _, fun _ => rfl, fun a e => by cases e⟩
  · refine ⟨some ⟨g, 0, none⟩, cap, rfl, rd_own (show Blk w g 71 cur from hg) (n := l.length) (fun r hr => ?_) ht, hc, (fun e => by cases e), fun a e => ?_⟩
    · obtain ⟨x, _, rfl⟩ := List.mem_map.1 hr
      rfl
    · injection e with e
      subst e
      exact ⟨hb, (Array.getElem?_eq_some_iff.1 hg).1⟩
theorem flArr_one (f : Fl) : f.arr.all (·.oneCell') = true := by simp [Fl.arr, Fl.cells, Value.oneCell']
theorem trd_pos : ∀ l : List Fl, (∀ f ∈ l, 0 ≤ f.qty) → 0 ≤ trd l
  | [], _ => Int.le_refl _
  | f :: l, h => by
    have h1 := trd_pos l (fun x hx => h x (by simp [hx]))
    have h2 := h f (by simp)
    unfold trd
    split <;> omega
theorem trd_take {l : List Fl} {k : Nat} (hk : k < l.length) : trd (l.take (k + 1)) = trd (l.take k) + if l[k].gone = true then 0 else l[k].qty := by
  rw [List.take_succ_eq_append_getElem hk, trd_app]
  simp [trd]
theorem trd_le {l : List Fl} (h : ∀ f ∈ l, 0 ≤ f.qty) (k : Nat) : 0 ≤ trd (l.take k) ∧ trd (l.take k) ≤ trd l := by
  have h1 := trd_app (l.take k) (l.drop k)
  rw [List.take_append_drop] at h1
  have h2 := trd_pos (l.take k) (fun f hf => h f (List.mem_of_mem_take hf))
  have h3 := trd_pos (l.drop k) (fun f hf => h f (List.mem_of_mem_drop hf))
  omega
theorem traded_rd {w : World} {A : Option Addr} {cap : Nat} {left stop : Int} {fs : List Fl} (hrd : Rd w 4 A (fs.map Fl.cells)) (hl : fs.length ≤ 1000) (hpos : ∀ f ∈ fs, 0 ≤ f.qty) (hs : trd fs ≤ 9223372036854775807) :
    Calls Try.prog 27 #[.agg #[.slice A fs.length cap, .int .i64 left, .int .i64 stop]] w fun e w' => e = .returned (.int .i64 (trd fs)) ∧ Below w.heap.size w w' := by
  have hP0 : Blk (w.alloc (.cells #[.slice A fs.length cap, .int .i64 left, .int .i64 stop] 65)) w.heap.size 65 #[.slice A fs.length cap, .int .i64 left, .int .i64 stop] := Blk.new _ _ _ _ rfl
  have hb0 : Below w.heap.size w (w.alloc (.cells #[.slice A fs.length cap, .int .i64 left, .int .i64 stop] 65)) := by (repeat (first | with_reducible exact Below.refl _ _ | (with_reducible assumption) | (with_reducible refine below_alloc ?_ _) | (with_reducible refine below_ext (w1 := ?_) ?_ ?_; rotate_left 2; (with_reducible assumption)) | (with_reducible refine Below.setCell ?_ ?_ _; rotate_left; ((try simp) <;> omega)) | (with_reducible refine Below.drew ?_) | (with_reducible refine below_drewN ?_ _) | fail))
  have p0 : (w.alloc (.cells #[.slice A fs.length cap, .int .i64 left, .int .i64 stop] 65)).cell? ⟨w.heap.size, 0, none⟩ = some (.slice A fs.length cap) := hP0.cell 0
  have HR := Lib.hid hrd
  have HPO := Lib.hid hpos
  have HLE := Lib.hid (fun k => trd_le hpos k)
  clear hrd hpos hP0
  go_enter Try.func27, Try.ntmps27
  go_wp2_with fail
  go_loopw [2, 10] (fun s iv wr => ∃ k : Nat, s = .int .i64 (trd (fs.take k)) ∧ iv = .int .i64 k ∧ k ≤ fs.length ∧ Below w.heap.size w wr) (fun _ iv _ => fs.length - (intOf iv).toNat)
  case atStart => exact ⟨0, rfl, rfl, Nat.zero_le _, hb0⟩
  case round =>
    obtain ⟨k, rfl, rfl, hk, hb⟩ := hrel
    clear hb0 p0
    by_cases hlt : k < fs.length
    · obtain ⟨ab, ao, rfl, hmid⟩ := Bk.rd_rngB (HR.out.below hb) hlt
      have hX : Blk (wr.alloc (.cells #[.int .i64 0, .int .i64 0, .int .i64 0, .bool false] 71)) wr.heap.size 71 #[.int .i64 0, .int .i64 0, .int .i64 0, .bool false] := Blk.new _ _ _ _ rfl
      have hq := HPO.out _ (fs.getElem_mem hlt)
      have h1 := HLE.out k
      have h2 := HLE.out (k + 1)
      have HT := Lib.hid (trd_take hlt)
      obtain ⟨x, hx⟩ : ∃ x, x = fs[k] := ⟨_, rfl⟩
      rw [← hx] at hmid HT hq
      obtain ⟨sm, hsm⟩ : ∃ s, s = trd (fs.take k) := ⟨_, rfl⟩
      rw [← hsm] at h1 HT ⊢
      cases hg : x.gone with
      | true =>
        rw [hg, if_pos rfl] at HT
        have HG := Lib.hid hg
        clear hx hsm hg
        go_wp2_with (first | (refine wpList_load_mid (by rfl) _ _ (by rfl) _ _ (by rfl) _ _ hmid Try.underlying71 rfl (by kernel_rfl) ?_) | (((with_reducible show wpList _ _ _ (⟨_, .store 71 _ _, _, _, _, _⟩ :: _) _ _); refine wpList_store_blk (by rfl) 71 _ _ (by rfl) _ _ (by rfl) (by rfl) _ _ hX (by kernel_rfl) (by rfl) ?_ ?_; (next => exact flArr_one ..); intro w3 hX3 hU3); have c3 : w3.cell? ⟨wr.heap.size, 3, none⟩ = some (.bool true) := by (rw [← HG.out]; exact Blk.cell hX3 3)) | fail)
        have hb3 : Below wr.heap.size wr w3 := below_upd (by (repeat (first | with_reducible exact Below.refl _ _ | (with_reducible assumption) | (with_reducible refine below_alloc ?_ _) | (with_reducible refine below_ext (w1 := ?_) ?_ ?_; rotate_left 2; (with_reducible assumption)) | (with_reducible refine Below.setCell ?_ ?_ _; rotate_left; ((try simp) <;> omega)) | (with_reducible refine Below.drew ?_) | (with_reducible refine below_drewN ?_ _) | fail))) (Nat.le_refl _) hU3
        go_roundw
        case rel => exact ⟨k + 1, by rw [HT.out]; simp, by go_num, by omega, below_ext hb hb3⟩
        case measure => (simp [intOf] <;> omega)
      | false =>
        rw [hg, if_neg (by simp)] at HT
        have h4 : trd (fs.take (k + 1)) = sm + x.qty := HT.out
        rw [h4] at h2
        have HA := Lib.hid (fun W => Fix.add_any sm x.qty W ⟨by omega, by omega⟩ ⟨by omega, by omega⟩ ⟨by omega, by omega⟩)
        have HG := Lib.hid hg
        clear hx hsm hg h4
        go_wp2_with (first | (refine wpList_load_mid (by rfl) _ _ (by rfl) _ _ (by rfl) _ _ hmid Try.underlying71 rfl (by kernel_rfl) ?_) | (((with_reducible show wpList _ _ _ (⟨_, .store 71 _ _, _, _, _, _⟩ :: _) _ _); refine wpList_store_blk (by rfl) 71 _ _ (by rfl) _ _ (by rfl) (by rfl) _ _ hX (by kernel_rfl) (by rfl) ?_ ?_; (next => exact flArr_one ..); intro w3 hX3 hU3); have c2 : w3.cell? ⟨wr.heap.size, 2, none⟩ = some (.int .i64 x.qty) := Blk.cell hX3 2; have c3 : w3.cell? ⟨wr.heap.size, 3, none⟩ = some (.bool false) := by (rw [← HG.out]; exact Blk.cell hX3 3)) | (go_at_call 80; refine (HA.out _).mono ?_; rintro e w4 ⟨rfl, rfl⟩) | fail)
        have hb3 : Below wr.heap.size wr w3 := below_upd (by (repeat (first | with_reducible exact Below.refl _ _ | (with_reducible assumption) | (with_reducible refine below_alloc ?_ _) | (with_reducible refine below_ext (w1 := ?_) ?_ ?_; rotate_left 2; (with_reducible assumption)) | (with_reducible refine Below.setCell ?_ ?_ _; rotate_left; ((try simp) <;> omega)) | (with_reducible refine Below.drew ?_) | (with_reducible refine below_drewN ?_ _) | fail))) (Nat.le_refl _) hU3
        go_roundw
        case rel => exact ⟨k + 1, by rw [HT.out], by go_num, by omega, below_ext hb hb3⟩
        case measure => (simp [intOf] <;> omega)
    · have hk' : k = fs.length := by omega
      subst hk'
      rw [List.take_length]
      go_wp2_with fail
      go_ret
      exact ⟨rfl, hb⟩
theorem traded_any {w : World} {B : Nat} {v : Value} {left stop : Int} {fs : List Fl} (hown : w.ownsRow B 71 4 v fs.length (flatF fs)) (hl : fs.length ≤ 1000) (hpos : ∀ f ∈ fs, 0 ≤ f.qty) (hs : trd fs ≤ 9223372036854775807) :
    Calls Try.prog 27 #[.agg #[v, .int .i64 left, .int .i64 stop]] w fun e w' => e = .returned (.int .i64 (trd fs)) ∧ Below w.heap.size w w' := by
  obtain ⟨A, cap, rfl, hrd, _⟩ := owns_fl hown
  exact traded_rd hrd hl hpos hs
/-- Does a book reach a price? -/
def rchO (s l : Int) (os : List Ord) : Bool := decide (s = 0 ∨ s = 1) && ((Bk.frontO (1 - s) os).isSome && !wrs s ((Bk.frontO (1 - s) os).getD Are.ord0).price l)
theorem reaches_nil (s l : Int) (w : World) : Calls Try.prog 11 #[.pointer none, .int .i64 s, .int .i64 l] w fun e w' => e = .returned (.bool false) ∧ Below w.heap.size w w' := by
  have HB := Lib.hid (fun z W => Bk.best_off none z (.inl rfl) W)
  by_cases hs : s = 0 ∨ s = 1
  · have HO := Lib.hid (fun W => other_yes hs W)
    clear hs
    go_enter Try.func11, Try.ntmps11
    go_wp2_with (first | (go_at_call 37; refine (HO.out _).mono ?_; rintro e w1 ⟨rfl, rfl⟩) | (go_at_call 38; refine (HB.out _ _).mono ?_; rintro e w2 ⟨rfl, hb2⟩) | fail)
    go_ret
    exact ⟨rfl, hb2⟩
  · have HO := Lib.hid (fun W => other_no (s := s) (by omega) (by omega) W)
    clear hs
    go_enter Try.func11, Try.ntmps11
    go_wp2_with (first | (go_at_call 37; refine (HO.out _).mono ?_; rintro e w1 ⟨⟨z, rfl⟩, rfl⟩) | (go_at_call 38; refine (HB.out _ _).mono ?_; rintro e w2 ⟨rfl, hb2⟩) | fail)
    go_ret
    exact ⟨rfl, hb2⟩
section
variable {w : World} {c : Nat → Nat} {b N most k : Nat} {ss : List Sl}
theorem reaches_any (S : Bs w c b N most k ss) (s l : Int) : Calls Try.prog 11 #[.pointer (some ⟨b, 0, none⟩), .int .i64 s, .int .i64 l] w fun e w' => e = .returned (.bool (rchO s l (osOf ss))) ∧ Below w.heap.size w w' := by
  have HB := Lib.hid (fun z => Bk.best_any S z)
  by_cases hs : s = 0 ∨ s = 1
  · have HO := Lib.hid (fun W => other_yes hs W)
    have HS := Lib.hid hs
    clear S hs
    cases hf : Bk.frontO (1 - s) (osOf ss) with
    | none =>
      have HR : Hid (rchO s l (osOf ss) = false) := Lib.hid (by unfold rchO; rw [hf]; simp)
      have HB1 := HB.out (1 - s)
      rw [hf] at HB1
      have HB1 := Lib.hid HB1
      rw [HR.out]
      clear hf HB
      go_enter Try.func11, Try.ntmps11
      go_wp2_with (first | (go_at_call 37; refine (HO.out _).mono ?_; rintro e w1 ⟨rfl, rfl⟩) | (go_at_call 38; refine HB1.out.mono ?_; rintro e w2 ⟨rfl, hb2⟩) | fail)
      go_ret
      exact ⟨rfl, hb2⟩
    | some o =>
      have HR : Hid (rchO s l (osOf ss) = !wrs s o.price l) := Lib.hid (by unfold rchO; rw [hf, decide_eq_true HS.out]; simp)
      have HB1 := HB.out (1 - s)
      rw [hf] at HB1
      have HB1 : Hid (Calls Try.prog 38 #[.pointer (some ⟨b, 0, none⟩), .int .i64 (1 - s)] w fun e w' => e = .returned (.tuple #[.int .i64 o.price, .bool true]) ∧ Below w.heap.size w w') := Lib.hid HB1
      have HW := Lib.hid (fun W => worse_any s o.price l W)
      rw [HR.out]
      generalize wrs s o.price l = z at *
      clear hf HB HR
      go_enter Try.func11, Try.ntmps11
      go_wp2_with (first | (go_at_call 37; refine (HO.out _).mono ?_; rintro e w1 ⟨rfl, rfl⟩) | (go_at_call 38; refine HB1.out.mono ?_; rintro e w2 ⟨rfl, hb2⟩) | (go_at_call 39; refine (HW.out _).mono ?_; rintro e w3 ⟨rfl, rfl⟩) | fail)
      go_ret
      exact ⟨rfl, hb2⟩
  · have HO := Lib.hid (fun W => other_no (s := s) (by omega) (by omega) W)
    have HR : rchO s l (osOf ss) = false := by unfold rchO; rw [decide_eq_false hs]; rfl
    rw [HR]
    clear hs S HR
    go_enter Try.func11, Try.ntmps11
    go_wp2_with (first | (go_at_call 37; refine (HO.out _).mono ?_; rintro e w1 ⟨⟨z, rfl⟩, rfl⟩) | (go_at_call 38; refine (HB.out _).mono ?_; rintro e w2 ⟨rfl, hb2⟩) | fail)
    go_ret
    exact ⟨rfl, hb2⟩
end
theorem built_ordZ : Try.prog.built 43 [] = some Are.ord0.arr := by kernel_rfl
theorem rfront_any {w : World} {rb N most : Nat} {L : List Ord} {A : Option Addr} {cap : Nat} (q : Rk.Rb w rb (N : Int) (most : Int) L A cap) (s : Int) : Calls Try.prog 40 #[.pointer (some ⟨rb, 0, none⟩), .int .i64 s] w fun e w' => e = .returned (.tuple #[.agg ((srt s L).head?.getD Are.ord0).arr, .bool (srt s L).head?.isSome]) ∧ Below w.heap.size w w' := by
  have hN0 : Blk (w.alloc (.cells Are.ord0.arr 43)) w.heap.size 43 Are.ord0.arr := Blk.new _ _ _ _ rfl
  have hb0 : Below w.heap.size w (w.alloc (.cells Are.ord0.arr 43)) := by (repeat (first | with_reducible exact Below.refl _ _ | (with_reducible assumption) | (with_reducible refine below_alloc ?_ _) | (with_reducible refine below_ext (w1 := ?_) ?_ ?_; rotate_left 2; (with_reducible assumption)) | (with_reducible refine Below.setCell ?_ ?_ _; rotate_left; ((try simp) <;> omega)) | (with_reducible refine Below.drew ?_) | (with_reducible refine below_drewN ?_ _) | fail))
  have HO := Lib.hid (Rk.rof_any (q.ext hb0) s)
  cases hl : srt s L with
  | nil =>
    rw [hl] at HO
    clear hl
    go_enter Try.func40, Try.ntmps40
    go_wp2_with (first | (go_at_call 92; refine HO.out.mono ?_; rintro e w2 ⟨⟨v, rfl, hown⟩, hb2⟩; obtain ⟨A2, cp2, rfl, _⟩ := Rk.owns_o7 hown; have hN2 := Blk.ext hN0 hb2) | ((with_reducible show wpList _ _ _ (⟨_, .build _ _, _, _, _, _⟩ :: _) _ _); refine wpList_build_is (by rfl) _ _ (by rfl) ?_ ?_ ?_; rotate_left; (next => simp only [List.map_toArray, List.map_nil, go_sem]; exact built_ordZ ..)) | ((with_reducible show wpList _ _ _ (⟨_, .store 43 _ _, _, _, _, _⟩ :: _) _ _); refine wpList_store_blk (by rfl) 43 _ _ (by rfl) _ _ (by rfl) (by rfl) _ _ hN2 (by kernel_rfl) (by rfl) ?_ ?_; (next => first | (simp [Value.oneCell']; done) | (simp [Value.oneCell']; done) | exact Are.ordArr_one _); intro w3 hN3 hU3) | fail)
    exact bodyPost_ret (Bk.results_ord2 rfl _ _ _ _ _ (by rfl) (by rfl) hN3 rfl) rfl ⟨rfl, below_upd (below_ext hb0 hb2) (Nat.le_refl _) hU3⟩
  | cons o l =>
    rw [hl] at HO
    clear hl
    go_enter Try.func40, Try.ntmps40
    go_wp2_with (first | (go_at_call 92; refine HO.out.mono ?_; rintro e w2 ⟨⟨v, rfl, hown⟩, hb2⟩; obtain ⟨A2, cp2, rfl, hrd2, _⟩ := Rk.owns_o7 hown; have hN2 := Blk.ext hN0 hb2; obtain ⟨ab, ao, rfl, hmid⟩ := Bk.rd_rngB (xs := o :: l) (c := Ord.cells) hrd2 (i := 0) (by simp); have hln : ((o :: l).length : Int) ≠ 0 := by (simp; omega)) | (refine wpList_load_mid (by rfl) _ _ (by rfl) _ _ (by rfl) _ _ hmid Try.underlying43 rfl (by kernel_rfl) ?_) | ((with_reducible show wpList _ _ _ (⟨_, .store 43 _ _, _, _, _, _⟩ :: _) _ _); refine wpList_store_blk (by rfl) 43 _ _ (by rfl) _ _ (by rfl) (by rfl) _ _ hN2 (by kernel_rfl) (by rfl) ?_ ?_; (next => first | (simp [Value.oneCell']; done) | (simp [Value.oneCell']; done) | exact Are.ordArr_one _); intro w3 hN3 hU3) | fail)
    exact bodyPost_ret (Bk.results_ord2 rfl _ _ _ _ _ (by rfl) (by rfl) hN3 rfl) rfl ⟨rfl, below_upd (below_ext hb0 hb2) (Nat.le_refl _) hU3⟩
theorem rreaches_any {w : World} {rb N most : Nat} {L : List Ord} {A : Option Addr} {cap : Nat} (q : Rk.Rb w rb (N : Int) (most : Int) L A cap) (s l : Int) : Calls Try.prog 12 #[.pointer (some ⟨rb, 0, none⟩), .int .i64 s, .int .i64 l] w fun e w' => e = .returned (.bool (rchO s l L)) ∧ Below w.heap.size w w' := by
  by_cases hs : s = 0 ∨ s = 1
  · have HF := Lib.hid (rfront_any q (1 - s))
    have hfr : Bk.frontO (1 - s) L = (srt (1 - s) L).head? := by
      unfold Bk.frontO
      rw [if_pos (by omega)]
    have hR : rchO s l L = ((srt (1 - s) L).head?.isSome && !wrs s ((srt (1 - s) L).head?.getD Are.ord0).price l) := by
      unfold rchO
      rw [decide_eq_true hs, hfr]
      rfl
    rw [hR]
    clear q hfr hR
    generalize ((srt (1 - s) L).head?.getD Are.ord0) = o at *
    generalize (srt (1 - s) L).head?.isSome = z at *
    have HW := Lib.hid (fun W => rworse_any s o.price l W)
    generalize wrs s o.price l = y at *
    rcases hs with rfl | rfl
    all_goals
      cases z
      all_goals
        go_enter Try.func12, Try.ntmps12
        go_wp2_with (first | (go_at_call 40; refine HF.out.mono ?_; rintro e w2 ⟨rfl, hb2⟩; have hX2 := Blk.new w2 43 Are.ord0.arr _ rfl) | (((with_reducible show wpList _ _ _ (⟨_, .store 43 _ _, _, _, _, _⟩ :: _) _ _); refine wpList_store_blk (by rfl) 43 _ _ (by rfl) _ _ (by rfl) (by rfl) _ _ hX2 (by kernel_rfl) (by rfl) ?_ ?_; (next => first | (simp [Value.oneCell']; done) | (simp [Value.oneCell']; done) | exact Are.ordArr_one _); intro w3 hX3 hU3); have c3 : w3.cell? ⟨w2.heap.size, 3, none⟩ = some (.int .i64 o.price) := Blk.cell hX3 3) | (go_at_call 41; refine (HW.out _).mono ?_; rintro e w4 ⟨rfl, rfl⟩) | fail)
        go_ret
        exact ⟨rfl, below_upd (below_ext hb2 (by (repeat (first | with_reducible exact Below.refl _ _ | (with_reducible assumption) | (with_reducible refine below_alloc ?_ _) | (with_reducible refine below_ext (w1 := ?_) ?_ ?_; rotate_left 2; (with_reducible assumption)) | (with_reducible refine Below.setCell ?_ ?_ _; rotate_left; ((try simp) <;> omega)) | (with_reducible refine Below.drew ?_) | (with_reducible refine below_drewN ?_ _) | fail)))) hb2.size hU3⟩
  · have hR : rchO s l L = false := by unfold rchO; rw [decide_eq_false hs]; rfl
    have h0 : (s == 0) = false := by simp; omega
    have h1 : (s == 1) = false := by simp; omega
    have h2 : (s != 0) = true := by simp; omega
    have h3 : (s != 1) = true := by simp; omega
    rw [hR]
    clear hs q hR
    go_enter Try.func12, Try.ntmps12
    go_wp2_with fail
    go_ret
    exact ⟨rfl, Below.refl _ _⟩
end Sw
end Go.Proofs.Ytgaialcbpglhaaa
