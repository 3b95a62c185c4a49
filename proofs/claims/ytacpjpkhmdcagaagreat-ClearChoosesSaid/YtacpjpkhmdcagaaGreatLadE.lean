/- This text proves what the ladder's iterator hands over: the levels from the best on. It has no conditions but those that it states. -/
import Derived.Test.YtacpjpkhmdcagaaGreatLadN
import Derived.Test.YtacpjpkhmdcagaaGreatRangeH
import Derived.OwnWalkIn
import Derived.TacticsInMore
import Derived.LoopNIn
import Derived.LoopIn
namespace Go.Proofs.YtacpjpkhmdcagaaGreat
set_option linter.unusedVariables false
open Go.RowKit
namespace Lad
set_option maxHeartbeats 2000000
set_option maxRecDepth 10000
attribute [local go_sem] Oper.semAt_some
section
variable {w : World} {g : Nat} {side most : Int} {v : Value} {ls : List Lvl} {u : Nat → Nat}
def encL (ls : List Lvl) (x : {x : Lvl // x ∈ ls}) : Array Value := #[.agg x.1.arr]
abbrev Of (ls : List Lvl) := {x : Lvl // x ∈ ls}
theorem take_snoc {ls : List Lvl} {k : Nat} (hk : k < ls.length) : ls.attach.take k ++ [(⟨ls[k], List.getElem_mem hk⟩ : Of ls)] = ls.attach.take (k + 1) := by
  rw [List.take_succ_eq_append_getElem (by simpa using hk), List.getElem_attach]
theorem leach_in (l : Nat) (L : La w g side most v ls u) (b : Nat) (hq : Blk w b 85 #[.pointer (some ⟨g, 0, none⟩)]) (nb : List Nat) (hnb : g ∉ nb ∧ b ∉ nb ∧ ∀ r, v.ownBlock = some r → r ∉ nb)
    (J Jx : List (Of ls) → World → Prop)
    (hY : ∀ pre x W, J pre W → pre.length < ls.length → YieldAt Fence.wide 7 Tryz.prog l (encL ls x) W fun e W' =>
      (e = .returned (.bool true) ∧ J (pre ++ [x]) W' ∧ ButL nb w.heap.size W W') ∨ (e = .returned (.bool false) ∧ Jx (pre ++ [x]) W'))
    (W : World) (hW : Below w.heap.size w W) (hJo : AbidesFrom W.heap.size J) (h0 : J [] W) :
    CallsIn Fence.wide 8 Tryz.prog 96 #[.func (.yield l) #[] #[], .pointer (some ⟨b, 0, none⟩)] W fun e W' => (∃ v, e = .returned v) ∧
      ((∃ ys, ys = ls.attach ∧ J ys W') ∨ (∃ pre, pre <+: ls.attach ∧ Jx pre W')) := by
  have hvl := L.own_lt
  have hgl := L.hd.lt
  refine callsIn_of_wp Tryz.func96 rfl trivial ?_ rfl
  simp only [Tryz.ntmps96, List.size_toArray, List.length_cons, List.length_nil, Nat.reduceAdd, Nat.reduceSub, Array.replicate_succ, Array.replicate_zero, List.push_toArray, List.append_toArray, List.nil_append, List.cons_append]
  have cq : W.cell? ⟨b, 0, none⟩ = some (.pointer (some ⟨g, 0, none⟩)) := (hq.ext hW).cell 0
  have L1 := L.ext hW
  obtain ⟨A, cap, rfl, hrd, _⟩ := L1.rd
  have c2 : W.cell? ⟨g, 2, none⟩ = some (.slice A ls.length cap) := L1.hd.cell 2
  have hlen := L1.len
  have HJ := Lib.hid hJo
  clear L L1 hJo
  gi_wp2_with fail
  gi_loopw [12] (fun p wr => ∃ k : Nat, p = .int .i64 k ∧ k ≤ ls.length ∧ J (ls.attach.take k) wr ∧ ButL nb w.heap.size W wr) (fun p wr => ls.length - (intOf p).toNat)
  case atStart => exact ⟨0, rfl, Nat.zero_le _, h0, ButL.refl _ _ _⟩
  case round =>
    obtain ⟨k, rfl, hk, hJ, hB⟩ := hrel
    by_cases hlt : k < ls.length
    · have e1 : (k : Int) < (ls.length : Int) := by omega
      have e2 : (0 : Int) ≤ (k : Int) := by omega
      obtain ⟨rb, ro, rfl, hr, hrl⟩ := rd_lvl hrd hlt
      have hrb : wr.heap[rb]? = W.heap[rb]? := hB.block _ (hvl rb rfl).2 (hnb.2.2 rb rfl)
      have o0 : wr.cell? ⟨rb, ro + k * 4, none⟩ = some (.int .i64 (ls[k]).price) := (World.cell?_of_block hrb).trans (hr 0 _ rfl)
      have o1 : wr.cell? ⟨rb, ro + k * 4 + 1, none⟩ = some (.int .i64 (ls[k]).qty) := (World.cell?_of_block hrb).trans (hr 1 _ rfl)
      have o2 : wr.cell? ⟨rb, ro + k * 4 + 2, none⟩ = some (.int .i64 (ls[k]).orders) := (World.cell?_of_block hrb).trans (hr 2 _ rfl)
      have o3 : wr.cell? ⟨rb, ro + k * 4 + 3, none⟩ = some (.int .i64 (ls[k]).queue) := (World.cell?_of_block hrb).trans (hr 3 _ rfl)
      have hbA : Below w.heap.size wr (wr.alloc (.cells (ls[k]).arr 156)) := (Below.refl _ _).alloc (by have := hW.size; have := hB.size; omega) _
      have hJa : J (ls.attach.take k) (wr.alloc (.cells (ls[k]).arr 156)) := HJ.out _ _ _ none hJ ⟨rfl, rfl, rfl, by rw [sz_alloc]; exact Nat.le_succ _, fun k hk _ => heapAtLt wr _ k hk⟩ (fun g e => by cases e)
      obtain ⟨fn, tmps, assign, body, hy, hR⟩ := hY (ls.attach.take k) ⟨ls[k], List.getElem_mem hlt⟩ _ hJa (by rw [List.length_take, List.length_attach]; omega)
      have hy2 : (Instr.yield l #[.agg #[.int .i64 (ls[k]).price, .int .i64 (ls[k]).qty, .int .i64 (ls[k]).orders, .int .i64 (ls[k]).queue]]).run Tryz.prog (wr.alloc (.cells #[.int .i64 (ls[k]).price, .int .i64 (ls[k]).qty, .int .i64 (ls[k]).orders, .int .i64 (ls[k]).queue] 156)) = _ := hy
      clear hy
      gi_wp2_with fail
      refine hR.mono ?_
      rintro e W3 (⟨rfl, hJ3, hk3⟩ | ⟨rfl, hJx3⟩)
      · gi_wp2_with fail
        go_roundw
        case rel => exact ⟨k + 1, by go_num, by omega, by rw [← take_snoc hlt]; exact hJ3, hB.trans ((ButL.of_below hbA).trans hk3)⟩
        case measure => simp [intOf]; omega
      · gi_wp2_with fail
        refine bodyPost_ret (results_none rfl _ _ _) rfl ?_
        refine ⟨⟨_, rfl⟩, .inr ⟨_, ?_, hJx3⟩⟩
        rw [take_snoc hlt]
        exact List.take_prefix _ _
    · obtain rfl : k = ls.length := by omega
      gi_wp2_with fail
      go_end0
      exact ⟨⟨_, rfl⟩, .inl ⟨_, rfl, by rw [← List.length_attach, List.take_length] at hJ; exact hJ⟩⟩
theorem leach_stops (L : La w g side most v ls u) (b : Nat) (hq : Blk w b 85 #[.pointer (some ⟨g, 0, none⟩)]) (nb : List Nat) (hnb : g ∉ nb ∧ b ∉ nb ∧ ∀ r, v.ownBlock = some r → r ∉ nb) :
    SeqStopsK Fence.wide 8 Tryz.prog 96 #[.pointer (some ⟨b, 0, none⟩)] (encL ls) (ButL nb w.heap.size) (fun ys => ys = ls.attach) (fun pre => pre <+: ls.attach) ls.length w := fun l J Jx W hW hJ _ hY h0 =>
  leach_in l L b hq nb hnb J Jx hY W hW hJ h0
end
end Lad
end Go.Proofs.YtacpjpkhmdcagaaGreat
