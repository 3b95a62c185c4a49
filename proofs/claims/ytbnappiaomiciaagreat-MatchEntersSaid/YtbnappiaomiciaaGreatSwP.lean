/- This text proves what sweep.Apply makes of a book. It has no conditions but those that it states. -/
import Derived.Test.YtbnappiaomiciaaGreatSwA
import Derived.Test.YtbnappiaomiciaaGreatSwT
namespace Go.Proofs.YtbnappiaomiciaaGreat
set_option linter.unusedVariables false
open Go.RowKit
namespace Sw
set_option maxHeartbeats 4000000
set_option maxRecDepth 10000
open Bk (bet Bs osOf srt Sl Cs fndI rmI redF redO)
theorem Bs.monoK {w : World} {c : Nat → Nat} {b N most k : Nat} {ss : List Sl} : ∀ (n : Nat), Bs w c b N most k ss → k + n ≤ 1000 → Bs w c b N most (k + n) ss
  | 0, B, _ => B
  | n + 1, B, h => by
    have := Bs.monoK n B (by omega)
    exact this.mono1 (by omega)
theorem redO_bad {id z : Int} {os : List Ord} (h : (redF id z os).1 ≠ 0) : redO id z os = os := by
  unfold redF at h
  unfold redO
  cases hf : fndI id os with
  | none => rfl
  | some o =>
    rw [hf] at h
    simp only at h ⊢
    by_cases hz : z < 1 ∨ o.qty < z
    · rw [if_pos hz]
    · rw [if_neg hz] at h
      exact absurd rfl h
section
variable {w : World} {c : Nat → Nat} {b N most k : Nat} {ss : List Sl}
/-- What Apply leaves. -/
def ApPost (w : World) (c : Nat → Nat) (b N most k : Nat) (r : Int × List Ord) (e : Ending) (w' : World) : Prop :=
  e = .returned (.int .i64 r.1) ∧ ∃ c' ss', Bs w' c' b N most k ss' ∧ osOf ss' = r.2 ∧ Cs c c' w w'
/-- What holds in Apply's loop. -/
structure Wp (w wr : World) (c c1 : Nat → Nat) (b N most k i : Nat) (ss1 : List Sl) (fs : List Fl) (r : Int × List Ord) : Prop where
  bs : Bs wr c1 b N most (k + i) ss1
  cs : Cs c c1 w wr
  ap : appF (fs.drop i) (osOf ss1) = r
theorem apply_any (S : Bs w c b N most k ss) {fs : List Fl} {A : Option Addr} {cap : Nat} {left stop : Int} (hrd : Rd w 4 A (fs.map Fl.cells)) (h9 : ∀ a, A = some a → c a.block = 9 ∧ a.block < w.heap.size) (hwf : ∀ f ∈ fs, Idx.Wf f.id) (hk : k + fs.length < 1000) :
    Calls Tryz.prog 17 #[.pointer (some ⟨b, 0, none⟩), .agg #[.slice A fs.length cap, .int .i64 left, .int .i64 stop]] w (ApPost w c b N most (k + fs.length) (appF fs (osOf ss))) := by
  have hP0 : Blk (w.alloc (.cells #[.slice A fs.length cap, .int .i64 left, .int .i64 stop] 59)) w.heap.size 59 #[.slice A fs.length cap, .int .i64 left, .int .i64 stop] := Blk.new _ _ _ _ rfl
  have hb0 : Below w.heap.size w (w.alloc (.cells #[.slice A fs.length cap, .int .i64 left, .int .i64 stop] 59)) := by (repeat (first | with_reducible exact Below.refl _ _ | (with_reducible assumption) | (with_reducible refine below_alloc ?_ _) | (with_reducible refine below_ext (w1 := ?_) ?_ ?_; rotate_left 2; (with_reducible assumption)) | (with_reducible refine Below.setCell ?_ ?_ _; rotate_left; ((try simp) <;> omega)) | (with_reducible refine Below.drew ?_) | (with_reducible refine below_drewN ?_ _) | fail))
  have p0 : (w.alloc (.cells #[.slice A fs.length cap, .int .i64 left, .int .i64 stop] 59)).cell? ⟨w.heap.size, 0, none⟩ = some (.slice A fs.length cap) := hP0.cell 0
  have HR := Lib.hid hrd
  have H9 := Lib.hid h9
  have W0 : Hid (Wp w (w.alloc (.cells #[.slice A fs.length cap, .int .i64 left, .int .i64 stop] 59)) c c b N most k 0 ss fs (appF fs (osOf ss))) := Lib.hid ⟨S.ext hb0, Cs.of_below hb0, rfl⟩
  clear hrd h9 hP0 hb0
  generalize appF fs (osOf ss) = r at *
  go_enter Tryz.func17, Tryz.ntmps17
  go_wp2_with fail
  clear p0
  go_loopw [4, 16] (fun f iv wr => ∃ (i : Nat) (c1 : Nat → Nat) (ss1 : List Sl), f = .int .i64 0 ∧ iv = .int .i64 i ∧ i ≤ fs.length ∧ Hid (Wp w wr c c1 b N most k i ss1 fs r)) (fun _ iv _ => fs.length - (intOf iv).toNat)
  case atStart => exact ⟨0, _, _, rfl, rfl, Nat.zero_le _, W0⟩
  case round =>
    obtain ⟨i, c1, ss1, rfl, rfl, hi, HW⟩ := hrel
    clear W0 S
    by_cases hlt : i < fs.length
    · obtain ⟨ab, ao, rfl, hmid⟩ := Bk.rd_rngB (HW.out.cs.rd HR.out (fun a e => (H9.out a e).1) (fun a e => (H9.out a e).2)) hlt
      have hX : Blk (wr.alloc (.cells #[.int .i64 0, .int .i64 0, .int .i64 0, .bool false] 54)) wr.heap.size 54 #[.int .i64 0, .int .i64 0, .int .i64 0, .bool false] := Blk.new _ _ _ _ rfl
      have hx1 := hwf _ (fs.getElem_mem hlt)
      have hdr := HW.out.ap
      rw [List.drop_eq_getElem_cons hlt] at hdr
      unfold appF at hdr
      obtain ⟨x, hx⟩ : ∃ x, x = fs[i] := ⟨_, rfl⟩
      rw [← hx] at hmid hx1 hdr
      have HI := Lib.hid hi
      clear hx hi
      cases hg : x.gone with
      | true =>
        rw [if_pos hg] at hdr
        have HG := Lib.hid hg
        have HRM := Lib.hid (fun (W : World) (hW : Below wr.heap.size wr W) => Bk.remove_any (HW.out.bs.ext hW) hx1 (by omega))
        clear hg hx1
        cases hf : (fndI x.id (osOf ss1)).isSome with
        | true =>
          rw [hf, if_pos rfl] at hdr
          have HRM : Hid (∀ W, Below wr.heap.size wr W → Calls Tryz.prog 54 #[.pointer (some ⟨b, 0, none⟩), .int .i64 x.id] W fun e w' => e = .returned (.tuple #[.agg ((fndI x.id (osOf ss1)).getD Are.ord0).arr, .int .i64 0]) ∧ ∃ c' ss', Bs w' c' b N most (k + i + 1) ss' ∧ osOf ss' = rmI x.id (osOf ss1) ∧ Cs c1 c' W w') := Lib.hid (fun W hW => by
            have h := HRM.out W hW
            rwa [hf] at h)
          have HD := Lib.hid hdr
          clear hdr hf
          go_wp2_with (first | (refine wpList_load_mid (by rfl) _ _ (by rfl) _ _ (by rfl) _ _ hmid Tryz.underlying54 rfl (by kernel_rfl) ?_) | (((with_reducible show wpList _ _ _ (⟨_, .store 54 _ _, _, _, _, _⟩ :: _) _ _); refine wpList_store_blk (by rfl) 54 _ _ (by rfl) _ _ (by rfl) (by rfl) _ _ hX (by kernel_rfl) (by rfl) ?_ ?_; (next => exact flArr_one ..); intro w3 hX3 hU3); have c0 : w3.cell? ⟨wr.heap.size, 0, none⟩ = some (.int .i64 x.id) := Blk.cell hX3 0; have c2 : w3.cell? ⟨wr.heap.size, 2, none⟩ = some (.int .i64 x.qty) := Blk.cell hX3 2; have c3 : w3.cell? ⟨wr.heap.size, 3, none⟩ = some (.bool true) := by (rw [← HG.out]; exact Blk.cell hX3 3)) | fail)
          have hb3 : Below wr.heap.size wr w3 := below_upd (by (repeat (first | with_reducible exact Below.refl _ _ | (with_reducible assumption) | (with_reducible refine below_alloc ?_ _) | (with_reducible refine below_ext (w1 := ?_) ?_ ?_; rotate_left 2; (with_reducible assumption)) | (with_reducible refine Below.setCell ?_ ?_ _; rotate_left; ((try simp) <;> omega)) | (with_reducible refine Below.drew ?_) | (with_reducible refine below_drewN ?_ _) | fail))) (Nat.le_refl _) hU3
          refine (HRM.out _ hb3).mono ?_
          rintro e w5 ⟨rfl, c5, ss5, B5, hos, hs5⟩
          have hc5 : Cs c c5 w w5 := (HW.out.cs.trans (Cs.of_below hb3)).trans hs5
          have W5 : Hid (Wp w w5 c c5 b N most k (i + 1) ss5 fs r) := Lib.hid ⟨B5, hc5, by rw [hos]; exact HD.out⟩
          go_wp2_with fail
          go_roundw
          case rel => exact ⟨i + 1, c5, ss5, by rfl, by go_num, by omega, W5⟩
          case measure => (simp [intOf] <;> omega)
        | false =>
          rw [hf, if_neg (by simp)] at hdr
          have HRM : Hid (∀ W, Below wr.heap.size wr W → Calls Tryz.prog 54 #[.pointer (some ⟨b, 0, none⟩), .int .i64 x.id] W fun e w' => e = .returned (.tuple #[.agg ((fndI x.id (osOf ss1)).getD Are.ord0).arr, .int .i64 5]) ∧ ∃ c' ss', Bs w' c' b N most (k + i + 1) ss' ∧ osOf ss' = rmI x.id (osOf ss1) ∧ Cs c1 c' W w') := Lib.hid (fun W hW => by
            have h := HRM.out W hW
            rwa [hf] at h)
          have HNF := Lib.hid (Bk.rm_none (Option.isNone_iff_eq_none.1 (by simpa using hf)))
          have HD := Lib.hid hdr
          clear hdr hf
          go_wp2_with (first | (refine wpList_load_mid (by rfl) _ _ (by rfl) _ _ (by rfl) _ _ hmid Tryz.underlying54 rfl (by kernel_rfl) ?_) | (((with_reducible show wpList _ _ _ (⟨_, .store 54 _ _, _, _, _, _⟩ :: _) _ _); refine wpList_store_blk (by rfl) 54 _ _ (by rfl) _ _ (by rfl) (by rfl) _ _ hX (by kernel_rfl) (by rfl) ?_ ?_; (next => exact flArr_one ..); intro w3 hX3 hU3); have c0 : w3.cell? ⟨wr.heap.size, 0, none⟩ = some (.int .i64 x.id) := Blk.cell hX3 0; have c2 : w3.cell? ⟨wr.heap.size, 2, none⟩ = some (.int .i64 x.qty) := Blk.cell hX3 2; have c3 : w3.cell? ⟨wr.heap.size, 3, none⟩ = some (.bool true) := by (rw [← HG.out]; exact Blk.cell hX3 3)) | fail)
          have hb3 : Below wr.heap.size wr w3 := below_upd (by (repeat (first | with_reducible exact Below.refl _ _ | (with_reducible assumption) | (with_reducible refine below_alloc ?_ _) | (with_reducible refine below_ext (w1 := ?_) ?_ ?_; rotate_left 2; (with_reducible assumption)) | (with_reducible refine Below.setCell ?_ ?_ _; rotate_left; ((try simp) <;> omega)) | (with_reducible refine Below.drew ?_) | (with_reducible refine below_drewN ?_ _) | fail))) (Nat.le_refl _) hU3
          refine (HRM.out _ hb3).mono ?_
          rintro e w5 ⟨rfl, c5, ss5, B5, hos, hs5⟩
          have hc5 : Cs c c5 w w5 := (HW.out.cs.trans (Cs.of_below hb3)).trans hs5
          have HB5 := Lib.hid B5
          have HOS := Lib.hid hos
          have HC5 := Lib.hid hc5
          clear B5 hos hs5 hc5
          go_wp2_with fail
          go_ret
          refine ⟨by rw [← HD.out]; rfl, c5, ss5, ?_, by rw [HOS.out, ← HD.out]; exact HNF.out, HC5.out⟩
          have := Bs.monoK (fs.length - (i + 1)) HB5.out (by omega)
          rwa [show k + i + 1 + (fs.length - (i + 1)) = k + fs.length by omega] at this
      | false =>
        rw [if_neg (by simp [hg])] at hdr
        have HG := Lib.hid hg
        have HRD := Lib.hid (fun (W : World) (hW : Below wr.heap.size wr W) => Bk.reduce_any (HW.out.bs.ext hW) x.qty hx1 (by omega))
        clear hg hx1
        by_cases hf : (redF x.id x.qty (osOf ss1)).1 = 0
        · rw [if_pos hf] at hdr
          have HRD : Hid (∀ W, Below wr.heap.size wr W → Calls Tryz.prog 55 #[.pointer (some ⟨b, 0, none⟩), .int .i64 x.id, .int .i64 x.qty] W fun e w' => e = .returned (.tuple #[.agg (redF x.id x.qty (osOf ss1)).2.arr, .int .i64 0]) ∧ ∃ c' ss', Bs w' c' b N most (k + i + 1) ss' ∧ osOf ss' = redO x.id x.qty (osOf ss1) ∧ Cs c1 c' W w') := Lib.hid (fun W hW => by
            have h := HRD.out W hW
            rwa [hf] at h)
          have HD := Lib.hid hdr
          clear hdr hf
          go_wp2_with (first | (refine wpList_load_mid (by rfl) _ _ (by rfl) _ _ (by rfl) _ _ hmid Tryz.underlying54 rfl (by kernel_rfl) ?_) | (((with_reducible show wpList _ _ _ (⟨_, .store 54 _ _, _, _, _, _⟩ :: _) _ _); refine wpList_store_blk (by rfl) 54 _ _ (by rfl) _ _ (by rfl) (by rfl) _ _ hX (by kernel_rfl) (by rfl) ?_ ?_; (next => exact flArr_one ..); intro w3 hX3 hU3); have c0 : w3.cell? ⟨wr.heap.size, 0, none⟩ = some (.int .i64 x.id) := Blk.cell hX3 0; have c2 : w3.cell? ⟨wr.heap.size, 2, none⟩ = some (.int .i64 x.qty) := Blk.cell hX3 2; have c3 : w3.cell? ⟨wr.heap.size, 3, none⟩ = some (.bool false) := by (rw [← HG.out]; exact Blk.cell hX3 3)) | fail)
          have hb3 : Below wr.heap.size wr w3 := below_upd (by (repeat (first | with_reducible exact Below.refl _ _ | (with_reducible assumption) | (with_reducible refine below_alloc ?_ _) | (with_reducible refine below_ext (w1 := ?_) ?_ ?_; rotate_left 2; (with_reducible assumption)) | (with_reducible refine Below.setCell ?_ ?_ _; rotate_left; ((try simp) <;> omega)) | (with_reducible refine Below.drew ?_) | (with_reducible refine below_drewN ?_ _) | fail))) (Nat.le_refl _) hU3
          refine (HRD.out _ hb3).mono ?_
          rintro e w5 ⟨rfl, c5, ss5, B5, hos, hs5⟩
          have hc5 : Cs c c5 w w5 := (HW.out.cs.trans (Cs.of_below hb3)).trans hs5
          have W5 : Hid (Wp w w5 c c5 b N most k (i + 1) ss5 fs r) := Lib.hid ⟨B5, hc5, by rw [hos]; exact HD.out⟩
          go_wp2_with fail
          go_roundw
          case rel => exact ⟨i + 1, c5, ss5, by rfl, by go_num, by omega, W5⟩
          case measure => (simp [intOf] <;> omega)
        · rw [if_neg hf] at hdr
          have HNF := Lib.hid (redO_bad hf)
          have k0 : ((redF x.id x.qty (osOf ss1)).1 == 0) = false := by simpa using hf
          have HD := Lib.hid hdr
          clear hdr hf
          generalize (redF x.id x.qty (osOf ss1)).1 = fz at *
          go_wp2_with (first | (refine wpList_load_mid (by rfl) _ _ (by rfl) _ _ (by rfl) _ _ hmid Tryz.underlying54 rfl (by kernel_rfl) ?_) | (((with_reducible show wpList _ _ _ (⟨_, .store 54 _ _, _, _, _, _⟩ :: _) _ _); refine wpList_store_blk (by rfl) 54 _ _ (by rfl) _ _ (by rfl) (by rfl) _ _ hX (by kernel_rfl) (by rfl) ?_ ?_; (next => exact flArr_one ..); intro w3 hX3 hU3); have c0 : w3.cell? ⟨wr.heap.size, 0, none⟩ = some (.int .i64 x.id) := Blk.cell hX3 0; have c2 : w3.cell? ⟨wr.heap.size, 2, none⟩ = some (.int .i64 x.qty) := Blk.cell hX3 2; have c3 : w3.cell? ⟨wr.heap.size, 3, none⟩ = some (.bool false) := by (rw [← HG.out]; exact Blk.cell hX3 3)) | fail)
          have hb3 : Below wr.heap.size wr w3 := below_upd (by (repeat (first | with_reducible exact Below.refl _ _ | (with_reducible assumption) | (with_reducible refine below_alloc ?_ _) | (with_reducible refine below_ext (w1 := ?_) ?_ ?_; rotate_left 2; (with_reducible assumption)) | (with_reducible refine Below.setCell ?_ ?_ _; rotate_left; ((try simp) <;> omega)) | (with_reducible refine Below.drew ?_) | (with_reducible refine below_drewN ?_ _) | fail))) (Nat.le_refl _) hU3
          refine (HRD.out _ hb3).mono ?_
          rintro e w5 ⟨rfl, c5, ss5, B5, hos, hs5⟩
          have hc5 : Cs c c5 w w5 := (HW.out.cs.trans (Cs.of_below hb3)).trans hs5
          have HB5 := Lib.hid B5
          have HOS := Lib.hid hos
          have HC5 := Lib.hid hc5
          clear B5 hos hs5 hc5
          go_wp2_with fail
          go_ret
          refine ⟨by rw [← HD.out]; rfl, c5, ss5, ?_, by rw [HOS.out, ← HD.out]; exact HNF.out, HC5.out⟩
          have := Bs.monoK (fs.length - (i + 1)) HB5.out (by omega)
          rwa [show k + i + 1 + (fs.length - (i + 1)) = k + fs.length by omega] at this
    · have hi' : i = fs.length := by omega
      subst hi'
      have hap := HW.out.ap
      rw [List.drop_length] at hap
      have HA := Lib.hid hap
      clear hap
      go_wp2_with fail
      go_ret
      exact ⟨by rw [← HA.out]; rfl, c1, ss1, HW.out.bs, by rw [← HA.out]; rfl, HW.out.cs⟩
end
end Sw
end Go.Proofs.YtbnappiaomiciaaGreat
