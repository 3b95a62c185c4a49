/- This text proves the contract of damperlaw12's act, on both indexes. It has no conditions but those that it states. -/
import Derived.Test.YtojkkmmiflbepaaIdxRef
import Derived.Test.YtojkkmmiflbepaaMid
namespace Go.Proofs.Ytojkkmmiflbepaa
set_option linter.unusedVariables false
open Go.RowKit Go.Maps
namespace Idx
set_option maxHeartbeats 1000000
set_option maxRecDepth 10000
structure Act where
  (kind sym slot id : Int)
def Act.cells (x : Act) : List Value := [.int .i64 x.kind, .int .i64 x.sym, .int .i64 x.slot, .int .i64 x.id]
def Act.arr (x : Act) : Array Value := x.cells.toArray
@[go_sem] theorem Act.arr_size (x : Act) : x.arr.size = 4 := rfl
@[go_sem] theorem Act.arr_0 (x : Act) : x.arr[0]? = some (.int .i64 x.kind) := rfl
@[go_sem] theorem Act.arr_1 (x : Act) : x.arr[1]? = some (.int .i64 x.sym) := rfl
@[go_sem] theorem Act.arr_2 (x : Act) : x.arr[2]? = some (.int .i64 x.slot) := rfl
@[go_sem] theorem Act.arr_3 (x : Act) : x.arr[3]? = some (.int .i64 x.id) := rfl
def Act.wf (x : Act) : Prop := Wf x.sym ∧ Wf x.slot ∧ Wf x.id
theorem Xq.mono {w : World} {xb bs bm n m : Nat} {L : List R3} (x : Xq w xb bs bm n L) (h : n ≤ m) (hm : m ≤ 1000) : Xq w xb bs bm m L :=
  ⟨x.hd, x.os.imp fun D h1 => ⟨h1.1.mono h, h1.2⟩, x.om.imp fun D h1 => ⟨h1.1.mono h, h1.2⟩, x.ne, x.wf, x.uniq, by have := x.len; omega⟩
/-- What one index does leaves the other one as it is. -/
theorem Xq.offR {w w' : World} {xb bs bm n rb : Nat} {L M : List R3} {A : Option Addr} {cap : Nat} (x : Xq w xb bs bm n L) (q : Rq w rb M A cap) (hu : ButL [rb] w.heap.size w w') : Xq w' xb bs bm n L := by
  have hne : xb ≠ rb := fun e => by
    have h1 := q.hd
    have h2 := x.hd
    unfold Blk at h1 h2
    rw [e, h1] at h2
    simp at h2
  obtain ⟨D, hD, hD'⟩ := x.os
  obtain ⟨E, hE, hE'⟩ := x.om
  have keep : ∀ {k : TypeId} {b : Nat} {R : Value → Option (Dt × List MemPlace)} {D : Dt}, w.ownsMap Try.prog k R b n D → w'.ownsMap Try.prog k R b n D := by
    intro k b R D h
    have hlt := h.lt
    obtain ⟨es, clock, hb, F, hs, hD⟩ := h
    refine ⟨es, clock, (hu.block b hlt (fun hm => ?_)).trans hb, F, hs, hD⟩
    simp at hm
    have h1 := q.hd
    unfold Blk at h1
    rw [hm, h1] at hb
    cases hb
  exact ⟨x.hd.butL hu (by simpa using hne), ⟨D, keep hD, hD'⟩, ⟨E, keep hE, hE'⟩, x.ne, x.wf, x.uniq, x.len⟩
theorem Rq.offX {w w' : World} {xb bs bm n rb : Nat} {L M : List R3} {A : Option Addr} {cap : Nat} (q : Rq w rb M A cap) (x : Xq w xb bs bm n L) (hu : ButL [bs, bm] w.heap.size w w') : Rq w' rb M A cap := by
  have no : ∀ {b : Nat} {cs : Array Value} {t : TypeId} {fr : Nat × Nat}, w.heap[b]? = some (.cells cs t fr) → b ∉ [bs, bm] := by
    intro b cs t fr hb hm
    obtain ⟨D, ⟨es, c, h1, _⟩, _⟩ := x.os
    obtain ⟨E, ⟨es', c', h2, _⟩, _⟩ := x.om
    simp at hm
    rcases hm with rfl | rfl
    · rw [h1] at hb
      cases hb
    · rw [h2] at hb
      cases hb
  refine ⟨(hu.block rb q.hd.lt (no q.hd)).trans q.hd, ?_, q.fit, q.nil, fun a e => by have := q.far a e; have := hu.size; omega, q.len⟩
  by_cases hM : M = []
  · subst hM
    exact fun hne => absurd rfl hne
  · obtain ⟨m, rest, rfl⟩ : ∃ m rest, M = m :: rest := by cases M with
      | nil => exact absurd rfl hM
      | cons a b => exact ⟨a, b, rfl⟩
    obtain ⟨b, o, e, hr, hc, _⟩ := q.at (j := 0) (by simp)
    refine q.rd.keep (fun a ha => hu.block _ (q.far a ha).2 ?_)
    rw [e] at ha
    cases ha
    have hlt := cell_lt hc
    cases ho : w.heap[b]? with
    | none => simp [World.cell?, ho] at hc
    | some ob =>
      cases ob with
      | cells cs t fr => exact no ho
      | _ => simp [World.cell?, ho] at hc
def putR (L : List R3) (s i v : Int) : List R3 := if (look L s i).isSome then L else L ++ [⟨s, i, v⟩]
theorem put_any {w : World} {xb bs bm n : Nat} {L : List R3} (x : Xq w xb bs bm n L) {s i v : Int} (hs : Wf s) (hi : Wf i) (hv : Wf v) (hn : n < 1000) : Calls Try.prog 9 #[.pointer (some ⟨xb, 0, none⟩), key s i, .int .i64 v] w fun e w' => e = .returned (.bool (look L s i).isNone) ∧ Xq w' xb bs bm (n + 1) (putR L s i v) ∧ ButL [bs, bm] w.heap.size w w' := by
  unfold putR
  cases h : look L s i with
  | none => exact put_new x hs hi hv h hn
  | some r =>
    refine (put_old x v hs hi (by rw [h]; rfl)).mono ?_
    rintro e w' ⟨rfl, hb⟩
    exact ⟨rfl, (x.ext hb).mono (Nat.le_succ _) (by omega), ButL.of_below hb⟩
theorem rput_any {w : World} {rb : Nat} {L : List R3} {A : Option Addr} {cap : Nat} (q : Rq w rb L A cap) (s i v : Int) (hl : L.length < 500) : Calls Try.prog 12 #[.pointer (some ⟨rb, 0, none⟩), .int .i64 s, .int .i64 i, .int .i64 v] w fun e w' => e = .returned (.bool (look L s i).isNone) ∧ (∃ A' cap', Rq w' rb (putR L s i v) A' cap') ∧ ButL [rb] w.heap.size w w' := by
  unfold putR
  cases h : look L s i with
  | none => exact rput_new q v h hl
  | some r =>
    refine (rput_old q v (by rw [h]; rfl)).mono ?_
    rintro e w' ⟨rfl, rfl⟩
    exact ⟨rfl, ⟨_, _, q⟩, ButL.refl _ _ _⟩
theorem drop_any {w : World} {xb bs bm n : Nat} {L : List R3} (x : Xq w xb bs bm n L) {s i : Int} (hs : Wf s) (hi : Wf i) (hn : n < 1000) : Calls Try.prog 14 #[.pointer (some ⟨xb, 0, none⟩), key s i] w fun e w' => e = .returned (.bool (look L s i).isSome) ∧ Xq w' xb bs bm (n + 1) (dropR L s i) ∧ ButL [bs, bm] w.heap.size w w' := by
  cases h : look L s i with
  | none =>
    rw [drop_none h]
    refine (drop_no x hs hi h).mono ?_
    rintro e w' ⟨rfl, hb⟩
    exact ⟨rfl, (x.ext hb).mono (Nat.le_succ _) (by omega), ButL.of_below hb⟩
  | some r => exact drop_yes x hs hi (by rw [h]; rfl) hn
theorem rdrop_any {w : World} {rb : Nat} {L : List R3} {A : Option Addr} {cap : Nat} (q : Rq w rb L A cap) (s i : Int) (hu : Uniq L) : Calls Try.prog 15 #[.pointer (some ⟨rb, 0, none⟩), .int .i64 s, .int .i64 i] w fun e w' => e = .returned (.bool (look L s i).isSome) ∧ (∃ A' cap', Rq w' rb (dropR L s i) A' cap') ∧ ButL [rb] w.heap.size w w' := by
  cases h : look L s i with
  | none =>
    rw [drop_none h]
    refine (rdrop_no q h).mono ?_
    rintro e w' ⟨rfl, rfl⟩
    exact ⟨rfl, ⟨_, _, q⟩, ButL.refl _ _ _⟩
  | some r => exact rdrop_yes q hu (by rw [h]; rfl)
/-- Both indexes lie there, and hold the same rows. -/
def Bx (w : World) (xb bs bm n rb : Nat) (L : List R3) : Prop := Xq w xb bs bm n L ∧ ∃ A cap, Rq w rb L A cap
theorem Bx.ext {w w' : World} {xb bs bm n rb : Nat} {L : List R3} (b : Bx w xb bs bm n rb L) (hb : Below w.heap.size w w') : Bx w' xb bs bm n rb L :=
  ⟨b.1.ext hb, b.2.imp fun A h => h.imp fun cap h => h.ext hb⟩
theorem Bx.lt {w : World} {xb bs bm n rb : Nat} {L : List R3} (b : Bx w xb bs bm n rb L) : bs < w.heap.size ∧ bm < w.heap.size ∧ rb < w.heap.size := by
  obtain ⟨A, cap, q⟩ := b.2
  exact ⟨b.1.lt.2.1, b.1.lt.2.2, q.hd.lt⟩
/-- Two calls, one on each index, in whichever order. -/
theorem twoX {w : World} {xb bs bm n m rb : Nat} {L L' : List R3} {FX FR : FuncId} {ax ar : Array Value} {v : Value}
    (hX : ∀ W, Xq W xb bs bm n L → Calls Try.prog FX ax W fun e w' => e = .returned v ∧ Xq w' xb bs bm m L' ∧ ButL [bs, bm] W.heap.size W w')
    (hR : ∀ W, (∃ A cap, Rq W rb L A cap) → Calls Try.prog FR ar W fun e w' => e = .returned v ∧ (∃ A cap, Rq w' rb L' A cap) ∧ ButL [rb] W.heap.size W w') (hb : Bx w xb bs bm n rb L) :
    (Calls Try.prog FX ax w fun e w' => e = .returned v ∧ ButL [bs, bm, rb] w.heap.size w w' ∧ Calls Try.prog FR ar w' fun e w'' => e = .returned v ∧ ButL [bs, bm, rb] w.heap.size w w'' ∧ Bx w'' xb bs bm m rb L') ∧
    (Calls Try.prog FR ar w fun e w' => e = .returned v ∧ ButL [bs, bm, rb] w.heap.size w w' ∧ Calls Try.prog FX ax w' fun e w'' => e = .returned v ∧ ButL [bs, bm, rb] w.heap.size w w'' ∧ Bx w'' xb bs bm m rb L') := by
  have wide : ∀ {l : List Nat} {B C : Nat} {A A' : World}, ButL l B A A' → (∀ y ∈ l, y ∈ [bs, bm, rb]) → C ≤ B → ButL [bs, bm, rb] C A A' := fun h hl hC => ⟨h.os, h.tape, h.output, h.size, fun i hi hn => h.block i (by omega) (fun hm => hn (hl i hm))⟩
  obtain ⟨x, A, cap, q⟩ := hb
  constructor
  · refine (hX w x).mono ?_
    rintro e w1 ⟨rfl, x1, hu1⟩
    have h1 := wide hu1 (by simp) (Nat.le_refl _)
    refine ⟨rfl, h1, ?_⟩
    refine (hR w1 ⟨A, cap, q.offX x hu1⟩).mono ?_
    rintro e w2 ⟨rfl, q2, hu2⟩
    exact ⟨rfl, h1.trans (wide hu2 (by simp) hu1.size), x1.offR (q.offX x hu1) hu2, q2⟩
  · refine (hR w ⟨A, cap, q⟩).mono ?_
    rintro e w1 ⟨rfl, ⟨A1, cap1, q1⟩, hu1⟩
    have h1 := wide hu1 (by simp) (Nat.le_refl _)
    refine ⟨rfl, h1, ?_⟩
    refine (hX w1 (x.offR q hu1)).mono ?_
    rintro e w2 ⟨rfl, x2, hu2⟩
    exact ⟨rfl, h1.trans (wide hu2 (by simp) hu1.size), x2, A1, cap1, q1.offX (x.offR q hu1) hu2⟩
def SA (ab kb : Nat) (x : Act) (W : World) : Prop := (W.cell? ⟨ab, 1, none⟩ = some (.int .i64 x.sym) ∧ W.cell? ⟨ab, 2, none⟩ = some (.int .i64 x.slot) ∧ W.cell? ⟨ab, 3, none⟩ = some (.int .i64 x.id)) ∧ (W.cell? ⟨kb, 0, none⟩ = some (.int .i64 x.sym) ∧ W.cell? ⟨kb, 1, none⟩ = some (.int .i64 x.id))
theorem SA.off {ab kb : Nat} {x : Act} {w w' : World} {l : List Nat} (h : SA ab kb x w) (hu : ButL l w.heap.size w w') (h1 : ab < w.heap.size) (h2 : kb < w.heap.size) (n1 : ab ∉ l) (n2 : kb ∉ l) : SA ab kb x w' := by
  have e : ∀ b i, b < w.heap.size → b ∉ l → w'.cell? ⟨b, i, none⟩ = w.cell? ⟨b, i, none⟩ := fun b i hb hn => World.cell?_of_block (a := ⟨b, i, none⟩) (hu.block b hb hn)
  obtain ⟨⟨a, b, c⟩, d, f⟩ := h
  exact ⟨⟨(e _ _ h1 n1).trans a, (e _ _ h1 n1).trans b, (e _ _ h1 n1).trans c⟩, (e _ _ h2 n2).trans d, (e _ _ h2 n2).trans f⟩
def ActPost (w : World) (xb bs bm rb m : Nat) (e : Ending) (w' : World) : Prop := e = .returned (.bool true) ∧ (∃ n L, Bx w' xb bs bm n rb L ∧ L.length ≤ m ∧ n ≤ m) ∧ ButL [bs, bm, rb] w.heap.size w w'
theorem putR_len (L : List R3) (s i v : Int) : (putR L s i v).length ≤ L.length + 1 := by
  unfold putR
  split <;> simp
theorem act_any (x : Act) {w : World} {xb bs bm n rb m : Nat} {L : List R3} (hx : x.wf) (b : Bx w xb bs bm n rb L) (hL : L.length ≤ m) (hn : n ≤ m) (hm : m < 300) :
    Calls Try.prog 6 #[.pointer (some ⟨xb, 0, none⟩), .pointer (some ⟨rb, 0, none⟩), .agg x.arr] w (ActPost w xb bs bm rb (m + 1)) := by
  obtain ⟨hx1, hx2, hx3⟩ := hx
  have hlt := b.lt
  have hA0 : Blk ((w.alloc (.cells x.arr 32)).alloc (.cells #[.int .i64 x.sym, .int .i64 x.id] 42)) w.heap.size 32 x.arr := (Blk.new w _ _ _ rfl).alloc _
  have hK0 : Blk ((w.alloc (.cells x.arr 32)).alloc (.cells #[.int .i64 x.sym, .int .i64 x.id] 42)) (w.heap.size + 1) 42 #[.int .i64 x.sym, .int .i64 x.id] := Blk.new _ _ _ _ (sz_alloc _ _)
  have hb0 : Below w.heap.size w ((w.alloc (.cells x.arr 32)).alloc (.cells #[.int .i64 x.sym, .int .i64 x.id] 42)) := by (repeat (first | with_reducible exact Below.refl _ _ | (with_reducible assumption) | (with_reducible refine below_alloc ?_ _) | (with_reducible refine below_ext (w1 := ?_) ?_ ?_; rotate_left 2; (with_reducible assumption)) | (with_reducible refine Below.setCell ?_ ?_ _; rotate_left; ((try simp) <;> omega)) | (with_reducible refine Below.drew ?_) | (with_reducible refine below_drewN ?_ _) | fail))
  have hz0 : ((w.alloc (.cells x.arr 32)).alloc (.cells #[.int .i64 x.sym, .int .i64 x.id] 42)).heap.size = w.heap.size + 2 := by rw [sz_alloc, sz_alloc]
  have hac : (w.alloc (.cells x.arr 32)).cell? ⟨w.heap.size, 1, none⟩ = some (.int .i64 x.sym) := (Blk.new w 32 x.arr _ rfl).cell 1
  have hac3 : (w.alloc (.cells x.arr 32)).cell? ⟨w.heap.size, 3, none⟩ = some (.int .i64 x.id) := (Blk.new w 32 x.arr _ rfl).cell 3
  have k0 : ((w.alloc (.cells x.arr 32)).alloc (.cells #[.int .i64 x.sym, .int .i64 x.id] 42)).cell? ⟨w.heap.size, 0, none⟩ = some (.int .i64 x.kind) := hA0.cell 0
  have hS0 : SA w.heap.size (w.heap.size + 1) x ((w.alloc (.cells x.arr 32)).alloc (.cells #[.int .i64 x.sym, .int .i64 x.id] 42)) := ⟨⟨hA0.cell 1, hA0.cell 2, hA0.cell 3⟩, hK0.cell 0, hK0.cell 1⟩
  have b0 := b.ext hb0
  have hulen := b.1.uniq
  have HU := Lib.hid hulen
  clear hulen
  by_cases h0 : x.kind = 0
  · have HX := Lib.hid (fun W (y : Xq W xb bs bm n L) => put_any y (s := x.sym) (i := x.id) (v := x.slot) hx1 hx3 hx2 (by omega))
    have HR := Lib.hid (fun W (y : ∃ A cap, Rq W rb L A cap) => (y.elim fun A h => h.elim fun cap q => rput_any q x.sym x.id x.slot (by omega)))
    have HL := Lib.hid (Nat.le_trans (putR_len L x.sym x.id x.slot) (Nat.succ_le_succ hL))
    generalize (Idx.look L x.sym x.id).isNone = rv at *
    generalize putR L x.sym x.id x.slot = L2 at *
    unfold key at HX
    rw [h0] at k0
    clear hA0 hK0
    go_enter Try.func6, Try.ntmps6
    go_wp2_with fail
    generalize hw0 : (w.alloc (.cells x.arr 32)).alloc (.cells #[.int .i64 x.sym, .int .i64 x.id] 42) = w0 at *
    clear hw0 hac hac3 k0
    refine wp_region_T (S := SA w.heap.size (w.heap.size + 1) x) 14 (by kernel_rfl) ?_
    have b1 : Bx w0.drew xb bs bm n rb L := b0.ext (by (repeat (first | with_reducible exact Below.refl _ _ | (with_reducible assumption) | (with_reducible refine below_alloc ?_ _) | (with_reducible refine below_ext (w1 := ?_) ?_ ?_; rotate_left 2; (with_reducible assumption)) | (with_reducible refine Below.setCell ?_ ?_ _; rotate_left; ((try simp) <;> omega)) | (with_reducible refine Below.drew ?_) | (with_reducible refine below_drewN ?_ _) | fail)))
    have hS1 : SA w.heap.size (w.heap.size + 1) x w0.drew := hS0
    have hz1 : w0.drew.heap.size = w0.heap.size := rfl
    have hw1 : Below w.heap.size w w0.drew := hb0.drew
    generalize w0.drew = w1 at b1 hS1 hz1 hw1 ⊢
    obtain ⟨HA, HB⟩ := twoX HX.out HR.out b1
    have HA := Lib.hid HA
    have HB := Lib.hid HB
    have hS := hS1
    (refine T_take (i := 0) rfl (by kernel_rfl) (fun _ _ _ _ h => h) hS ?_; apply Exists.intro; refine ⟨.inl ⟨by rfl, fun W hW => ?_⟩, ?_⟩; (next => (obtain ⟨hs1, hs2⟩ := hW; go_simp; first | done | rfl)); simp only [Act.put, List.setIfInBounds_toArray, List.set_cons_zero, List.set_cons_succ])
    (refine T_take (i := 1) rfl (by kernel_rfl) (fun _ _ _ _ h => h) hS ?_; apply Exists.intro; refine ⟨.inl ⟨by rfl, fun W hW => ?_⟩, ?_⟩; (next => (obtain ⟨hs1, hs2⟩ := hW; go_simp; first | done | rfl)); simp only [Act.put, List.setIfInBounds_toArray, List.set_cons_zero, List.set_cons_succ])
    (refine T_take (i := 2) rfl (by kernel_rfl) (fun _ _ _ _ h => h) hS ?_; apply Exists.intro; refine ⟨.inl ⟨by rfl, fun W hW => ?_⟩, ?_⟩; (next => (obtain ⟨hs1, hs2⟩ := hW; go_simp; first | done | rfl)); simp only [Act.put, List.setIfInBounds_toArray, List.set_cons_zero, List.set_cons_succ])
    (refine T_take (i := 3) rfl (by kernel_rfl) (fun _ _ _ _ h => h) hS ?_; apply Exists.intro; refine ⟨.inl ⟨by rfl, fun W hW => ?_⟩, ?_⟩; (next => (obtain ⟨hs1, hs2⟩ := hW; go_simp; first | done | rfl)); simp only [Act.put, List.setIfInBounds_toArray, List.set_cons_zero, List.set_cons_succ])
    (refine T_take (i := 5) rfl (by kernel_rfl) (fun _ _ _ _ h => h) hS ?_; apply Exists.intro; refine ⟨.inl ⟨by rfl, fun W hW => ?_⟩, ?_⟩; (next => (obtain ⟨hs1, hs2⟩ := hW; go_simp; first | done | rfl)); simp only [Act.put, List.setIfInBounds_toArray, List.set_cons_zero, List.set_cons_succ])
    (refine T_take (i := 6) rfl (by kernel_rfl) (fun _ _ _ _ h => h) hS ?_; apply Exists.intro; refine ⟨.inl ⟨by rfl, fun W hW => ?_⟩, ?_⟩; (next => (obtain ⟨hs1, hs2⟩ := hW; go_simp; first | done | rfl)); simp only [Act.put, List.setIfInBounds_toArray, List.set_cons_zero, List.set_cons_succ])
    (refine T_take (i := 7) rfl (by kernel_rfl) (fun _ _ _ _ h => h) hS ?_; apply Exists.intro; refine ⟨.inl ⟨by rfl, fun W hW => ?_⟩, ?_⟩; (next => (obtain ⟨hs1, hs2⟩ := hW; go_simp; first | done | rfl)); simp only [Act.put, List.setIfInBounds_toArray, List.set_cons_zero, List.set_cons_succ])
    (refine T_take (i := 8) rfl (by kernel_rfl) (fun _ _ _ _ h => h) hS ?_; apply Exists.intro; refine ⟨.inl ⟨by rfl, fun W hW => ?_⟩, ?_⟩; (next => (obtain ⟨hs1, hs2⟩ := hW; go_simp; first | done | rfl)); simp only [Act.put, List.setIfInBounds_toArray, List.set_cons_zero, List.set_cons_succ])
    (refine T_take (i := 9) rfl (by kernel_rfl) (fun _ _ _ _ h => h) hS ?_; apply Exists.intro; refine ⟨.inl ⟨by rfl, fun W hW => ?_⟩, ?_⟩; (next => (obtain ⟨hs1, hs2⟩ := hW; go_simp; first | done | rfl)); simp only [Act.put, List.setIfInBounds_toArray, List.set_cons_zero, List.set_cons_succ])
    (refine T_take (i := 10) rfl (by kernel_rfl) (fun _ _ _ _ h => h) hS ?_; apply Exists.intro; refine ⟨.inl ⟨by rfl, fun W hW => ?_⟩, ?_⟩; (next => (obtain ⟨hs1, hs2⟩ := hW; go_simp; first | done | rfl)); simp only [Act.put, List.setIfInBounds_toArray, List.set_cons_zero, List.set_cons_succ])
    (refine T_take (i := 11) rfl (by kernel_rfl) (fun _ _ _ _ h => h) hS ?_; apply Exists.intro; refine ⟨.inl ⟨by rfl, fun W hW => ?_⟩, ?_⟩; (next => (obtain ⟨hs1, hs2⟩ := hW; go_simp; first | done | rfl)); simp only [Act.put, List.setIfInBounds_toArray, List.set_cons_zero, List.set_cons_succ])
    refine T_all [4] (by kernel_rfl) (by decide) ?_
    intro j hj
    simp only [List.mem_cons, List.mem_nil_iff, or_false, List.not_mem_nil] at hj
    subst hj
    refine T_op rfl (by rfl) (wp_enter (F := 9) (args := #[.pointer (some ⟨xb, 0, none⟩), .agg #[.int .i64 x.sym, .int .i64 x.id], .int .i64 x.slot]) (v := .bool rv) (by go_simp; first | done | rfl) ?_)
    refine HA.out.mono ?_
    rintro e w2 ⟨rfl, hu2, HC⟩
    have hS2 := hS1.off hu2 (by omega) (by omega) (by simp; omega) (by simp; omega)
    refine ⟨rfl, .inr hS2, ?_⟩
    simp only [Act.put, List.setIfInBounds_toArray, List.set_cons_zero, List.set_cons_succ]
    refine T_all [12] (by kernel_rfl) (by decide) ?_
    intro j hj
    simp only [List.mem_cons, List.mem_nil_iff, or_false, List.not_mem_nil] at hj
    subst hj
    refine T_op rfl (by rfl) (wp_enter (F := 12) (args := #[.pointer (some ⟨rb, 0, none⟩), .int .i64 x.sym, .int .i64 x.id, .int .i64 x.slot]) (v := .bool rv) (by go_simp; first | done | rfl) ?_)
    refine HC.mono ?_
    rintro e w3 ⟨rfl, hu3, b3⟩
    have hS3 := hS1.off hu3 (by omega) (by omega) (by simp; omega) (by simp; omega)
    refine ⟨rfl, .inr hS3, ?_⟩
    simp only [Act.put, List.setIfInBounds_toArray, List.set_cons_zero, List.set_cons_succ]
    have hS := hS3
    (refine T_take (i := 13) rfl (by kernel_rfl) (fun _ _ _ _ h => h) hS ?_; apply Exists.intro; refine ⟨.inl ⟨by rfl, fun W hW => ?_⟩, ?_⟩; (next => (obtain ⟨hs1, hs2⟩ := hW; go_simp; first | done | rfl)); simp only [Act.put, List.setIfInBounds_toArray, List.set_cons_zero, List.set_cons_succ])
    refine T_all [14] (by kernel_rfl) (by decide) ?_
    intro j hj
    simp only [List.mem_cons, List.mem_nil_iff, or_false, List.not_mem_nil] at hj
    subst hj
    refine T_op rfl (by rfl) (wp_calm (v := .bool true) (by go_simp; first | done | rfl | simp) ⟨.inl rfl, ?_⟩)
    simp only [Act.put, List.setIfInBounds_toArray, List.set_cons_zero, List.set_cons_succ]
    refine T_done (by kernel_rfl) ?_
    go_wp2_with fail
    go_ret
    exact ⟨rfl, ⟨n + 1, L2, b3, HL.out, by omega⟩, (ButL.of_below hw1).trans ⟨hu3.os, hu3.tape, hu3.output, hu3.size, fun i hi hn => hu3.block i (by omega) hn⟩⟩
  by_cases h1 : x.kind = 1
  · have HX := Lib.hid (fun W (hW : Below w.heap.size w W) => get_any (b.1.ext hW) (s := x.sym) (i := x.id) hx1 hx3)
    have HR := Lib.hid (fun W (hW : Below w.heap.size w W) => (b.ext hW).2.elim fun A h => h.elim fun cap q => rget_any q x.sym x.id)
    rw [h1] at k0
    have hbb := Lib.hid b
    clear b b0
    generalize (Idx.look L x.sym x.id).isSome = rv at *
    generalize (Idx.look L x.sym x.id).elim 0 R3.slot = rs at *
    unfold key at HX
    have a1 : ((w.alloc (.cells x.arr 32)).alloc (.cells #[.int .i64 x.sym, .int .i64 x.id] 42)).cell? ⟨w.heap.size, 1, none⟩ = some (.int .i64 x.sym) := hA0.cell 1
    have a3 : ((w.alloc (.cells x.arr 32)).alloc (.cells #[.int .i64 x.sym, .int .i64 x.id] 42)).cell? ⟨w.heap.size, 3, none⟩ = some (.int .i64 x.id) := hA0.cell 3
    go_enter Try.func6, Try.ntmps6
    go_wp2_with fail
    generalize hw0 : (w.alloc (.cells x.arr 32)).alloc (.cells #[.int .i64 x.sym, .int .i64 x.id] 42) = w0 at *
    clear hw0 hac hac3 k0
    refine (HX.out _ hb0).mono ?_
    rintro e w2 ⟨rfl, hb2⟩
    have hb02 := below_ext hb0 hb2
    have hA2 := hA0.ext hb2
    go_wp2_with (first | (refine wpList_load_fld (by rfl) _ _ (by rfl) _ _ (by rfl) ?_ ?_ ?_ ?_ ?_ ?_; rotate_left; (next => (repeat (first | (with_reducible refine BlkAt.new _ _ _ _ ?_; ((try simp) <;> omega)) | (with_reducible assumption) | (with_reducible refine Blk.at (t := ?_) ?_; rotate_left; with_reducible assumption) | with_reducible refine BlkAt.alloc ?_ _ | with_reducible refine BlkAt.drew ?_ | (with_reducible refine BlkAt.setSame ?_ _ _) | (with_reducible refine BlkAt.setCell ?_ ?_ _; rotate_left; ((try simp) <;> omega)) | (with_reducible refine BlkAt.ext (w := ?_) ?_ ?_; rotate_left 2; (with_reducible assumption)) | fail))); rotate_left; (next => first | (simp only [go_sem]; rfl) | rfl); (next => kernel_rfl); (try simp only [Act.put, List.setIfInBounds_toArray, List.set_cons_zero, List.set_cons_succ])) | fail)
    refine (HR.out _ hb02).mono ?_
    rintro e w3 ⟨rfl, rfl⟩
    go_wp2_with fail
    go_ret
    exact ⟨rfl, ⟨n, L, hbb.out.ext hb02, by omega, by omega⟩, ButL.of_below hb02⟩
  by_cases h2 : x.kind = 2
  · have HX := Lib.hid (fun W (y : Xq W xb bs bm n L) => drop_any y (s := x.sym) (i := x.id) hx1 hx3 (by omega))
    have HR := Lib.hid (fun W (y : ∃ A cap, Rq W rb L A cap) => (y.elim fun A h => h.elim fun cap q => rdrop_any q x.sym x.id HU.out))
    have HL := Lib.hid (show (dropR L x.sym x.id).length ≤ m + 1 from Nat.le_trans (List.length_filter_le _ _) (by omega))
    generalize (Idx.look L x.sym x.id).isSome = rv at *
    generalize dropR L x.sym x.id = L2 at *
    unfold key at HX
    rw [h2] at k0
    clear hA0 hK0
    go_enter Try.func6, Try.ntmps6
    go_wp2_with fail
    generalize hw0 : (w.alloc (.cells x.arr 32)).alloc (.cells #[.int .i64 x.sym, .int .i64 x.id] 42) = w0 at *
    clear hw0 hac hac3 k0
    refine wp_region_T (S := SA w.heap.size (w.heap.size + 1) x) 10 (by kernel_rfl) ?_
    have b1 : Bx w0.drew xb bs bm n rb L := b0.ext (by (repeat (first | with_reducible exact Below.refl _ _ | (with_reducible assumption) | (with_reducible refine below_alloc ?_ _) | (with_reducible refine below_ext (w1 := ?_) ?_ ?_; rotate_left 2; (with_reducible assumption)) | (with_reducible refine Below.setCell ?_ ?_ _; rotate_left; ((try simp) <;> omega)) | (with_reducible refine Below.drew ?_) | (with_reducible refine below_drewN ?_ _) | fail)))
    have hS1 : SA w.heap.size (w.heap.size + 1) x w0.drew := hS0
    have hz1 : w0.drew.heap.size = w0.heap.size := rfl
    have hw1 : Below w.heap.size w w0.drew := hb0.drew
    generalize w0.drew = w1 at b1 hS1 hz1 hw1 ⊢
    obtain ⟨HA, HB⟩ := twoX HX.out HR.out b1
    have HA := Lib.hid HA
    have HB := Lib.hid HB
    have hS := hS1
    (refine T_take (i := 0) rfl (by kernel_rfl) (fun _ _ _ _ h => h) hS ?_; apply Exists.intro; refine ⟨.inl ⟨by rfl, fun W hW => ?_⟩, ?_⟩; (next => (obtain ⟨hs1, hs2⟩ := hW; go_simp; first | done | rfl)); simp only [Act.put, List.setIfInBounds_toArray, List.set_cons_zero, List.set_cons_succ])
    (refine T_take (i := 1) rfl (by kernel_rfl) (fun _ _ _ _ h => h) hS ?_; apply Exists.intro; refine ⟨.inl ⟨by rfl, fun W hW => ?_⟩, ?_⟩; (next => (obtain ⟨hs1, hs2⟩ := hW; go_simp; first | done | rfl)); simp only [Act.put, List.setIfInBounds_toArray, List.set_cons_zero, List.set_cons_succ])
    (refine T_take (i := 3) rfl (by kernel_rfl) (fun _ _ _ _ h => h) hS ?_; apply Exists.intro; refine ⟨.inl ⟨by rfl, fun W hW => ?_⟩, ?_⟩; (next => (obtain ⟨hs1, hs2⟩ := hW; go_simp; first | done | rfl)); simp only [Act.put, List.setIfInBounds_toArray, List.set_cons_zero, List.set_cons_succ])
    (refine T_take (i := 4) rfl (by kernel_rfl) (fun _ _ _ _ h => h) hS ?_; apply Exists.intro; refine ⟨.inl ⟨by rfl, fun W hW => ?_⟩, ?_⟩; (next => (obtain ⟨hs1, hs2⟩ := hW; go_simp; first | done | rfl)); simp only [Act.put, List.setIfInBounds_toArray, List.set_cons_zero, List.set_cons_succ])
    (refine T_take (i := 5) rfl (by kernel_rfl) (fun _ _ _ _ h => h) hS ?_; apply Exists.intro; refine ⟨.inl ⟨by rfl, fun W hW => ?_⟩, ?_⟩; (next => (obtain ⟨hs1, hs2⟩ := hW; go_simp; first | done | rfl)); simp only [Act.put, List.setIfInBounds_toArray, List.set_cons_zero, List.set_cons_succ])
    (refine T_take (i := 6) rfl (by kernel_rfl) (fun _ _ _ _ h => h) hS ?_; apply Exists.intro; refine ⟨.inl ⟨by rfl, fun W hW => ?_⟩, ?_⟩; (next => (obtain ⟨hs1, hs2⟩ := hW; go_simp; first | done | rfl)); simp only [Act.put, List.setIfInBounds_toArray, List.set_cons_zero, List.set_cons_succ])
    (refine T_take (i := 7) rfl (by kernel_rfl) (fun _ _ _ _ h => h) hS ?_; apply Exists.intro; refine ⟨.inl ⟨by rfl, fun W hW => ?_⟩, ?_⟩; (next => (obtain ⟨hs1, hs2⟩ := hW; go_simp; first | done | rfl)); simp only [Act.put, List.setIfInBounds_toArray, List.set_cons_zero, List.set_cons_succ])
    refine T_all [2] (by kernel_rfl) (by decide) ?_
    intro j hj
    simp only [List.mem_cons, List.mem_nil_iff, or_false, List.not_mem_nil] at hj
    subst hj
    refine T_op rfl (by rfl) (wp_enter (F := 14) (args := #[.pointer (some ⟨xb, 0, none⟩), .agg #[.int .i64 x.sym, .int .i64 x.id]]) (v := .bool rv) (by go_simp; first | done | rfl) ?_)
    refine HA.out.mono ?_
    rintro e w2 ⟨rfl, hu2, HC⟩
    have hS2 := hS1.off hu2 (by omega) (by omega) (by simp; omega) (by simp; omega)
    refine ⟨rfl, .inr hS2, ?_⟩
    simp only [Act.put, List.setIfInBounds_toArray, List.set_cons_zero, List.set_cons_succ]
    refine T_all [8] (by kernel_rfl) (by decide) ?_
    intro j hj
    simp only [List.mem_cons, List.mem_nil_iff, or_false, List.not_mem_nil] at hj
    subst hj
    refine T_op rfl (by rfl) (wp_enter (F := 15) (args := #[.pointer (some ⟨rb, 0, none⟩), .int .i64 x.sym, .int .i64 x.id]) (v := .bool rv) (by go_simp; first | done | rfl) ?_)
    refine HC.mono ?_
    rintro e w3 ⟨rfl, hu3, b3⟩
    have hS3 := hS1.off hu3 (by omega) (by omega) (by simp; omega) (by simp; omega)
    refine ⟨rfl, .inr hS3, ?_⟩
    simp only [Act.put, List.setIfInBounds_toArray, List.set_cons_zero, List.set_cons_succ]
    have hS := hS3
    (refine T_take (i := 9) rfl (by kernel_rfl) (fun _ _ _ _ h => h) hS ?_; apply Exists.intro; refine ⟨.inl ⟨by rfl, fun W hW => ?_⟩, ?_⟩; (next => (obtain ⟨hs1, hs2⟩ := hW; go_simp; first | done | rfl)); simp only [Act.put, List.setIfInBounds_toArray, List.set_cons_zero, List.set_cons_succ])
    refine T_all [10] (by kernel_rfl) (by decide) ?_
    intro j hj
    simp only [List.mem_cons, List.mem_nil_iff, or_false, List.not_mem_nil] at hj
    subst hj
    refine T_op rfl (by rfl) (wp_calm (v := .bool true) (by go_simp; first | done | rfl | simp) ⟨.inl rfl, ?_⟩)
    simp only [Act.put, List.setIfInBounds_toArray, List.set_cons_zero, List.set_cons_succ]
    refine T_done (by kernel_rfl) ?_
    go_wp2_with fail
    go_ret
    exact ⟨rfl, ⟨n + 1, L2, b3, HL.out, by omega⟩, (ButL.of_below hw1).trans ⟨hu3.os, hu3.tape, hu3.output, hu3.size, fun i hi hn => hu3.block i (by omega) hn⟩⟩
  · have HX := Lib.hid (fun W (y : Xq W xb bs bm n L) => clear_any y (s := x.sym) hx1)
    have HR := Lib.hid (fun W (y : ∃ A cap, Rq W rb L A cap) => (y.elim fun A h => h.elim fun cap q => rclear_any q x.sym))
    have HL := Lib.hid (show (clearR L x.sym).length ≤ m + 1 from Nat.le_trans (List.length_filter_le _ _) (by omega))
    generalize cntS L x.sym = rv at *
    generalize clearR L x.sym = L2 at *
    clear hA0 hK0
    go_enter Try.func6, Try.ntmps6
    go_wp2_with fail
    generalize hw0 : (w.alloc (.cells x.arr 32)).alloc (.cells #[.int .i64 x.sym, .int .i64 x.id] 42) = w0 at *
    clear hw0 hac hac3 k0
    refine wp_region_T (S := SA w.heap.size (w.heap.size + 1) x) 9 (by kernel_rfl) ?_
    have b1 : Bx w0.drew xb bs bm n rb L := b0.ext (by (repeat (first | with_reducible exact Below.refl _ _ | (with_reducible assumption) | (with_reducible refine below_alloc ?_ _) | (with_reducible refine below_ext (w1 := ?_) ?_ ?_; rotate_left 2; (with_reducible assumption)) | (with_reducible refine Below.setCell ?_ ?_ _; rotate_left; ((try simp) <;> omega)) | (with_reducible refine Below.drew ?_) | (with_reducible refine below_drewN ?_ _) | fail)))
    have hS1 : SA w.heap.size (w.heap.size + 1) x w0.drew := hS0
    have hz1 : w0.drew.heap.size = w0.heap.size := rfl
    have hw1 : Below w.heap.size w w0.drew := hb0.drew
    generalize w0.drew = w1 at b1 hS1 hz1 hw1 ⊢
    obtain ⟨HA, HB⟩ := twoX HX.out HR.out b1
    have HA := Lib.hid HA
    have HB := Lib.hid HB
    have hS := hS1
    (refine T_take (i := 0) rfl (by kernel_rfl) (fun _ _ _ _ h => h) hS ?_; apply Exists.intro; refine ⟨.inl ⟨by rfl, fun W hW => ?_⟩, ?_⟩; (next => (obtain ⟨hs1, hs2⟩ := hW; go_simp; first | done | rfl)); simp only [Act.put, List.setIfInBounds_toArray, List.set_cons_zero, List.set_cons_succ])
    (refine T_take (i := 1) rfl (by kernel_rfl) (fun _ _ _ _ h => h) hS ?_; apply Exists.intro; refine ⟨.inl ⟨by rfl, fun W hW => ?_⟩, ?_⟩; (next => (obtain ⟨hs1, hs2⟩ := hW; go_simp; first | done | rfl)); simp only [Act.put, List.setIfInBounds_toArray, List.set_cons_zero, List.set_cons_succ])
    (refine T_take (i := 2) rfl (by kernel_rfl) (fun _ _ _ _ h => h) hS ?_; apply Exists.intro; refine ⟨.inl ⟨by rfl, fun W hW => ?_⟩, ?_⟩; (next => (obtain ⟨hs1, hs2⟩ := hW; go_simp; first | done | rfl)); simp only [Act.put, List.setIfInBounds_toArray, List.set_cons_zero, List.set_cons_succ])
    (refine T_take (i := 4) rfl (by kernel_rfl) (fun _ _ _ _ h => h) hS ?_; apply Exists.intro; refine ⟨.inl ⟨by rfl, fun W hW => ?_⟩, ?_⟩; (next => (obtain ⟨hs1, hs2⟩ := hW; go_simp; first | done | rfl)); simp only [Act.put, List.setIfInBounds_toArray, List.set_cons_zero, List.set_cons_succ])
    (refine T_take (i := 5) rfl (by kernel_rfl) (fun _ _ _ _ h => h) hS ?_; apply Exists.intro; refine ⟨.inl ⟨by rfl, fun W hW => ?_⟩, ?_⟩; (next => (obtain ⟨hs1, hs2⟩ := hW; go_simp; first | done | rfl)); simp only [Act.put, List.setIfInBounds_toArray, List.set_cons_zero, List.set_cons_succ])
    (refine T_take (i := 6) rfl (by kernel_rfl) (fun _ _ _ _ h => h) hS ?_; apply Exists.intro; refine ⟨.inl ⟨by rfl, fun W hW => ?_⟩, ?_⟩; (next => (obtain ⟨hs1, hs2⟩ := hW; go_simp; first | done | rfl)); simp only [Act.put, List.setIfInBounds_toArray, List.set_cons_zero, List.set_cons_succ])
    refine T_all [3] (by kernel_rfl) (by decide) ?_
    intro j hj
    simp only [List.mem_cons, List.mem_nil_iff, or_false, List.not_mem_nil] at hj
    subst hj
    refine T_op rfl (by rfl) (wp_enter (F := 16) (args := #[.pointer (some ⟨xb, 0, none⟩), .int .i64 x.sym]) (v := .int .i64 rv) (by go_simp; first | done | rfl) ?_)
    refine HA.out.mono ?_
    rintro e w2 ⟨rfl, hu2, HC⟩
    have hS2 := hS1.off hu2 (by omega) (by omega) (by simp; omega) (by simp; omega)
    refine ⟨rfl, .inr hS2, ?_⟩
    simp only [Act.put, List.setIfInBounds_toArray, List.set_cons_zero, List.set_cons_succ]
    refine T_all [7] (by kernel_rfl) (by decide) ?_
    intro j hj
    simp only [List.mem_cons, List.mem_nil_iff, or_false, List.not_mem_nil] at hj
    subst hj
    refine T_op rfl (by rfl) (wp_enter (F := 17) (args := #[.pointer (some ⟨rb, 0, none⟩), .int .i64 x.sym]) (v := .int .i64 rv) (by go_simp; first | done | rfl) ?_)
    refine HC.mono ?_
    rintro e w3 ⟨rfl, hu3, b3⟩
    have hS3 := hS1.off hu3 (by omega) (by omega) (by simp; omega) (by simp; omega)
    refine ⟨rfl, .inr hS3, ?_⟩
    simp only [Act.put, List.setIfInBounds_toArray, List.set_cons_zero, List.set_cons_succ]
    have hS := hS3
    (refine T_take (i := 8) rfl (by kernel_rfl) (fun _ _ _ _ h => h) hS ?_; apply Exists.intro; refine ⟨.inl ⟨by rfl, fun W hW => ?_⟩, ?_⟩; (next => (obtain ⟨hs1, hs2⟩ := hW; go_simp; first | done | rfl)); simp only [Act.put, List.setIfInBounds_toArray, List.set_cons_zero, List.set_cons_succ])
    refine T_all [9] (by kernel_rfl) (by decide) ?_
    intro j hj
    simp only [List.mem_cons, List.mem_nil_iff, or_false, List.not_mem_nil] at hj
    subst hj
    refine T_op rfl (by rfl) (wp_calm (v := .bool true) (by go_simp; first | done | rfl | simp) ⟨.inl rfl, ?_⟩)
    simp only [Act.put, List.setIfInBounds_toArray, List.set_cons_zero, List.set_cons_succ]
    refine T_done (by kernel_rfl) ?_
    go_wp2_with fail
    go_ret
    exact ⟨rfl, ⟨n, L2, b3, HL.out, by omega⟩, (ButL.of_below hw1).trans ⟨hu3.os, hu3.tape, hu3.output, hu3.size, fun i hi hn => hu3.block i (by omega) hn⟩⟩
end Idx
end Go.Proofs.Ytojkkmmiflbepaa
