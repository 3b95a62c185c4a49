/- This text proves FifoOrder: whatever the input, the law returns true. It has no conditions. It holds contracts of the package fifo: New, Push, Front, Pop, Remove, Of, Len, over links that are held as data. It has no conditions but those that they state. -/
import Derived.Test.YtodgeakkecaliaaFifoNew
namespace Go.Proofs.Ytodgeakkecaliaa
set_option linter.unusedVariables false
open Go.RowKit
namespace Fif
set_option maxHeartbeats 4000000
set_option maxRecDepth 10000

/-! ### the plain law -/
def inB (ws : List Nat) (j : Nat) : Bool := decide (j ∈ ws)
/-- The cells of 'in'. -/
def BC (p : Nat → Bool) (cs : Array Value) : Prop := cs.size = 20 ∧ ∀ j, j < 20 → cs[j]? = some (.bool (p j))
theorem BC.set {p : Nat → Bool} {cs : Array Value} (h : BC p cs) {k : Nat} (hk : k < 20) (b : Bool) : BC (up p k b) (cs.setIfInBounds k (.bool b)) := by
  obtain ⟨h1, h2⟩ := h
  refine ⟨by simp [h1], fun j hj => ?_⟩
  by_cases e : j = k
  · subst e
    rw [Array.getElem?_setIfInBounds_self_of_lt (by omega), up_same]
  · rw [Array.getElem?_setIfInBounds_ne (fun h => e h.symm), h2 j hj, up_ne _ _ e]
theorem BC.eq {p q : Nat → Bool} {cs : Array Value} (h : BC p cs) (e : p = q) : BC q cs := e ▸ h
theorem inB_push (ws : List Nat) (x : Nat) : up (inB ws) x true = inB (ws ++ [x]) := by
  funext i
  by_cases e : i = x
  · subst e; simp [up_same, inB]
  · rw [up_ne _ _ e]; simp [inB, e]
theorem inB_same (ws : List Nat) (x : Nat) (h : x ∈ ws) : up (inB ws) x true = inB ws := by
  funext i
  by_cases e : i = x
  · subst e; simp [up_same, inB, h]
  · rw [up_ne _ _ e]
/-- What is left of a list. -/
def lft (p : Nat → Bool) (ws : List Nat) : List Nat := ws.filter p
theorem lft_off {p : Nat → Bool} {ws : List Nat} (hn : ws.Nodup) {x : Nat} (hx : x ∈ ws) (hp : p x = true) : ∃ a b, lft p ws = a ++ x :: b ∧ lft (up p x false) ws = a ++ b := by
  obtain ⟨s, t, rfl⟩ := List.append_of_mem hx
  have hs : x ∉ s := fun h => by
    simp [List.nodup_append] at hn
    exact (hn.2.2 x h).1 rfl
  have ht : x ∉ t := fun h => by
    simp [List.nodup_append] at hn
    exact hn.2.1.1 h
  have key : ∀ l : List Nat, x ∉ l → l.filter (up p x false) = l.filter p := fun l hl => List.filter_congr (fun y hy => by rw [up_ne _ _ (fun (e : y = x) => hl (by rw [← e]; exact hy))])
  refine ⟨s.filter p, t.filter p, ?_, ?_⟩
  · simp [lft, List.filter_append, List.filter_cons, hp]
  · unfold lft
    rw [List.filter_append, List.filter_cons, key s hs, key t ht, up_same]
    simp
theorem lft_none {p : Nat → Bool} {ws : List Nat} {x : Nat} (hp : p x = false) : x ∉ lft p ws := by
  simp [lft, hp]
theorem lft_all (ws : List Nat) : lft (inB ws) ws = ws := List.filter_eq_self.2 (fun x hx => by simp [inB, hx])

/-! ### the walk -/
theorem Fq.keep {w w' : World} {g bn be N Q : Nat} {L : Nat → List Nat} (h : Fq w g bn be N Q L) (hg : w'.heap[g]? = w.heap[g]?) (hn : w'.heap[bn]? = w.heap[bn]?) (he : w'.heap[be]? = w.heap[be]?) : Fq w' g bn be N Q L := by
  obtain ⟨s, cn, ce, f, I⟩ := h
  exact ⟨s, cn, ce, ⟨hg.trans f.hd, hn.trans f.fbn, he.trans f.fbe, f.tn, f.te, f.ne, f.lim⟩, I⟩
def ints (ws : List Nat) : List Value := ws.map fun (x : Nat) => Value.int .i64 (x : Int)
def natR (x : Nat) : List Value := [.int .i64 (x : Int)]
theorem ints_flat (ws : List Nat) : (ws.map natR).flatten = ints ws := by
  induction ws with
  | nil => rfl
  | cons x l ih => simp [natR, ints] at ih ⊢; exact ih
theorem owns_keep {w w' : World} {B : Nat} {e : TypeId} {size : Nat} {v : Value} {n : Nat} {xs : List Value} (h : w.ownsRow B e size v n xs) (hk : ∀ x, B ≤ x → x < w.heap.size → w'.heap[x]? = w.heap[x]?) : w'.ownsRow B e size v n xs := by
  refine ⟨h.1, ?_⟩
  rcases h.2 with h0 | ⟨g, cap, cur, hv, hbs, hg, h1⟩
  · exact .inl h0
  · exact .inr ⟨g, cap, cur, hv, hbs, (hk g hbs (heap_lt hg)).trans hg, h1⟩
theorem owns_butL {w w' : World} {B : Nat} {e : TypeId} {size : Nat} {v : Value} {n : Nat} {xs : List Value} {l : List Nat} (h : w.ownsRow B e size v n xs) (hb : ButL l w.heap.size w w') (hl : ∀ y ∈ l, y < B) : w'.ownsRow B e size v n xs :=
  owns_keep h (fun x h1 h2 => hb.block x h2 (fun hm => by have := hl x hm; omega))
theorem owns_upd {w w' : World} {B g : Nat} {e : TypeId} {size : Nat} {v : Value} {n : Nat} {xs : List Value} (h : w.ownsRow B e size v n xs) (u : Upd g w w') (hg : g < B) : w'.ownsRow B e size v n xs :=
  owns_keep h (fun x h1 _ => u.block x (by omega))
theorem owns_slice {w : World} {B : Nat} {e : TypeId} {v : Value} {ws : List Nat} (h : w.ownsRow B e 1 v ws.length (ints ws)) : ∃ A cap, v = .slice A ws.length cap ∧ Rd w 1 A (ws.map natR) ∧ ∀ a, A = some a → B ≤ a.block ∧ a.block < w.heap.size := by
  rcases h.2 with ⟨rfl, h0⟩ | ⟨g, cap, cur, rfl, hb, hg, _, _, _, ht⟩
  · rw [h0]
    have : ws = [] := List.eq_nil_of_length_eq_zero h0
    subst this
    exact ⟨none, 0, rfl, fun hne => absurd rfl hne, fun a e => by cases e⟩
  · refine ⟨some ⟨g, 0, none⟩, cap, rfl, rd_own (show Blk w g e cur from hg) (n := ws.length) (fun r hr => ?_) (by rw [ints_flat]; exact ht), fun a e => ?_⟩
    · obtain ⟨x, _, rfl⟩ := List.mem_map.1 hr
      rfl
    · injection e with e
      subst e
      exact ⟨hb, heap_lt hg⟩
/-- The first loop's relation. -/
structure One (B k : Nat) (w wr : World) (g bn be bt : Nat) (v : Value) (ws : List Nat) : Prop where
  q : ∃ L, L 0 = ws ∧ Fq wr g bn be 20 1 L
  tab : ∃ cs, Blk wr bt 4 cs ∧ BC (inB ws) cs
  own : wr.ownsRow B 3 1 v ws.length (ints ws)
  nodup : ws.Nodup
  lt : ∀ x ∈ ws, x < 20
  len : ws.length ≤ k
  below : Below w.heap.size w wr
  size : B ≤ wr.heap.size
/-- The relation of the two loops behind it. -/
structure Two (B : Nat) (w wr : World) (g bn be bt : Nat) (A : Option Addr) (ws l : List Nat) (p : Nat → Bool) : Prop where
  q : ∃ L, L 0 = l ∧ Fq wr g bn be 20 1 L
  tab : ∃ cs, Blk wr bt 4 cs ∧ BC p cs
  rd : Rd wr 1 A (ws.map natR)
  far : ∀ a, A = some a → B ≤ a.block ∧ a.block < wr.heap.size
  below : Below w.heap.size w wr
  size : B ≤ wr.heap.size
theorem order_any (xs gs : List Int) (A C : Option Addr) (ca cc : Nat) (w : World) (hx : Rd w 1 A (xs.map intC)) (hg : Rd w 1 C (gs.map intC)) (hml : xs.length ≤ maxLen) (hmg : gs.length ≤ maxLen) :
    Calls Try.prog 8 #[.slice A xs.length ca, .slice C gs.length cc] w fun e w' => e = .returned (.bool true) ∧ Below w.heap.size w w' := by
  unfold maxLen at hml hmg
  have HX := Lib.hid hx
  have HG := Lib.hid hg
  clear hx hg
  have HN : Hid (∀ W, Calls Try.prog 25 #[.int .i64 20, .int .i64 1] W (FNewPost 20 1 W)) := Lib.hid (fun W => fnew_any 20 1 W ⟨by decide, by decide⟩ ⟨by decide, by decide⟩)
  by_cases h60 : 60 < xs.length
  · go_enter Try.func8, Try.ntmps8
    go_wp2_with (first | (go_at_call 25; refine (HN.out _).mono ?_; rintro e w1 ⟨g, bn, be, rfl, hge, h1, hb1⟩) | (go_at_call 24; refine (alive_any _).mono ?_; rintro e w'' ⟨rfl, hb2⟩) | fail)
    go_ret
    exact ⟨rfl, by (repeat (first | with_reducible exact Below.refl _ _ | (with_reducible assumption) | (with_reducible refine below_alloc ?_ _) | (with_reducible refine below_ext (w1 := ?_) ?_ ?_; rotate_left 2; (with_reducible assumption)) | (with_reducible refine Below.setCell ?_ ?_ _; rotate_left; ((try simp) <;> omega)) | (with_reducible refine Below.drew ?_) | (with_reducible refine below_drewN ?_ _) | fail))⟩
  by_cases h61 : 60 < gs.length
  · go_enter Try.func8, Try.ntmps8
    go_wp2_with (first | (go_at_call 25; refine (HN.out _).mono ?_; rintro e w1 ⟨g, bn, be, rfl, hge, h1, hb1⟩) | (go_at_call 24; refine (alive_any _).mono ?_; rintro e w'' ⟨rfl, hb2⟩) | fail)
    go_ret
    exact ⟨rfl, by (repeat (first | with_reducible exact Below.refl _ _ | (with_reducible assumption) | (with_reducible refine below_alloc ?_ _) | (with_reducible refine below_ext (w1 := ?_) ?_ ?_; rotate_left 2; (with_reducible assumption)) | (with_reducible refine Below.setCell ?_ ?_ _; rotate_left; ((try simp) <;> omega)) | (with_reducible refine Below.drew ?_) | (with_reducible refine below_drewN ?_ _) | fail))⟩
  go_enter Try.func8, Try.ntmps8
  go_wp2_with fail
  refine (HN.out _).mono ?_
  rintro e w1 ⟨g, bn, be, rfl, hge, hq1, hb1⟩
  have hq1l := hq1.lt
  go_wp2_with (first | (refine wpList_make_blk (by rfl) _ _ _ (by rfl) 4 (.bool false) 1 1 .i64 .i64 20 (by rfl) (by rfl) Try.underlying49 (by kernel_rfl) ⟨by decide, by decide⟩ ?_; intro w2 hT hb2 hz2) | fail)
  have hBC0 : BC (inB []) (madeCells (Value.bool false).cells (20 * 1)) := by
    refine ⟨size_madeCells _ _, fun j hj => ?_⟩
    rw [madeCells_all (v := .bool false) (fun i hi => by
      have : i = 0 := by simp [Value.cells] at hi; omega
      subst this; rfl) (by simp [Value.cells]) _ _ (by omega)]
    simp [inB]
  have hB2 := below_ext hb1 hb2
  have hz1 := hb1.size
  obtain ⟨bt, hbt⟩ : ∃ bt, bt = w1.heap.size := ⟨_, rfl⟩
  rw [← hbt] at hT ⊢
  have hgB : (g < bt ∧ bn < bt ∧ be < bt) ∧ w.heap.size ≤ bt := by rw [hbt]; exact ⟨hq1l, hz1⟩
  have hBB : w2.heap.size = bt + 1 := by rw [hbt]; exact hz2
  obtain ⟨⟨hgB1, hgB2, hgB3⟩, hwB⟩ := hgB
  have h0 : One (bt + 1) 0 w w2 g bn be bt (.slice none 0 0) [] := ⟨⟨_, rfl, hq1.ext hb2⟩, ⟨_, hT, hBC0⟩, World.ownsRow_nil _ _ _ _, List.nodup_nil, fun x h => (by cases h), Nat.le_refl _, hB2, by omega⟩
  clear hbt hT hBC0 hq1 hz2 hBB
  go_wp2_with fail
  go_loopw [8, 9] (fun v i wr => ∃ (k : Nat) (ws : List Nat), i = .int .i64 k ∧ k ≤ xs.length ∧ One (bt + 1) k w wr g bn be bt v ws) (fun _ i _ => xs.length - (intOf i).toNat)
  case atStart => exact ⟨0, [], rfl, Nat.zero_le _, h0⟩
  case round =>
    obtain ⟨k, ws, rfl, hk, hO⟩ := hrel
    clear h0
    by_cases hlt : k < xs.length
    · obtain ⟨rb, ro, rfl, hcx⟩ := (HX.out).at hlt
      have hx0 := hcx 0 _ rfl
      simp only [Nat.mul_one, Nat.add_zero] at hx0
      have hrb := cell_lt hx0
      have hx1 : wr.cell? ⟨rb, ro + k, none⟩ = some (.int .i64 xs[k]) := (hO.below.cell (p := ⟨rb, ro + k, none⟩) hrb).trans hx0
      by_cases hneg : xs[k] < 0
      · go_wp2_with (first | (go_at_call 24; refine (alive_any _).mono ?_; rintro e w'' ⟨rfl, hb3⟩) | fail)
        go_ret
        exact ⟨rfl, below_ext hO.below hb3⟩
      · by_cases hbig : 19 < xs[k]
        · go_wp2_with (first | (go_at_call 24; refine (alive_any _).mono ?_; rintro e w'' ⟨rfl, hb3⟩) | fail)
          go_ret
          exact ⟨rfl, below_ext hO.below hb3⟩
        · obtain ⟨x, hx⟩ : ∃ x : Nat, xs[k] = x := ⟨xs[k].toNat, by omega⟩
          have hx20 : x < 20 := by omega
          rw [hx] at hx1 hx0
          clear hneg hbig hx hcx
          obtain ⟨⟨L, hL, hq⟩, ⟨cs, hT, hC⟩, hown, hnd, hlt20, hlen, hb, hsz⟩ := hO
          have hsize := hC.1
          have hct : wr.cell? ⟨bt, x, none⟩ = some (.bool (inB ws x)) := (hT.cell x).trans (hC.2 x hx20)
          have hx20' : (x : Int) ≤ 19 := by omega
          have hx20a : (x : Int) < 20 := by omega
          have hx20b : (0 : Int) ≤ (x : Int) := by omega
          have hdr : Below wr.heap.size wr wr.drew := by (repeat (first | with_reducible exact Below.refl _ _ | (with_reducible assumption) | (with_reducible refine below_alloc ?_ _) | (with_reducible refine below_ext (w1 := ?_) ?_ ?_; rotate_left 2; (with_reducible assumption)) | (with_reducible refine Below.setCell ?_ ?_ _; rotate_left; ((try simp) <;> omega)) | (with_reducible refine Below.drew ?_) | (with_reducible refine below_drewN ?_ _) | fail))
          have htl := hT.lt
          by_cases hin : x ∈ ws
          · have hib : inB ws x = true := by simp [inB, hin]
            rw [hib] at hct
            have HP : Hid (∀ W, Fq W g bn be 20 1 L → Calls Try.prog 30 #[.pointer (some ⟨g, 0, none⟩), .int .i64 0, .int .i64 x] W fun e w' => e = .returned (.bool false) ∧ Below W.heap.size W w') := Lib.hid (fun W hW => q_push_busy hW 0 0 x (by decide) (by decide) (by rw [hL]; exact hin))
            have HL := Lib.hid hL
            clear hL hib
            go_wp2_with fail
            go_region_held3 (fun w' => w'.cell? ⟨rb, ro + k, none⟩ = some (.int .i64 x) ∧ w'.cell? ⟨bt, x, none⟩ = some (.bool true)) (first | exact ⟨hx1, hct⟩ | exact ⟨hx3, hct3⟩) (first | (go_at_call 30; refine (HP.out _ (hq.ext hdr)).mono ?_; rintro e w3 ⟨rfl, hb3⟩; have hb3' := below_ext hdr hb3; have hx3 : w3.cell? ⟨rb, ro + k, none⟩ = some (.int .i64 x) := (hb3'.cell (p := ⟨rb, ro + k, none⟩) (cell_lt hx1)).trans hx1; have hct3 : w3.cell? ⟨bt, x, none⟩ = some (.bool true) := (hb3'.cell (p := ⟨bt, x, none⟩) htl).trans hct))
            all_goals
              have hT3 := hT.ext hb3'
              go_wp2_with (first | (refine wpList_store_fld (by rfl) _ _ _ (by rfl) _ _ (by rfl) _ (by rfl) _ _ hT3 ?_ ?_ (by rfl) (by rfl) ?_; (next => first | omega | ((try simp) <;> omega)); (next => kernel_rfl); intro w4 hT4 hU4) | fail)
              go_roundw
              case rel => exact ⟨k + 1, ws, by go_num, by omega, ⟨⟨L, HL.out, (hq.ext hb3').keep (hU4.block _ (by omega)) (hU4.block _ (by omega)) (hU4.block _ (by omega))⟩, ⟨_, hT4, (hC.set hx20 true).eq (inB_same ws x hin)⟩, owns_upd (owns_ext hown hb3') hU4 (by omega), hnd, hlt20, by omega, below_upd (below_ext hb hb3') hwB hU4, by have := hb3'.size; have := hU4.size; omega⟩⟩
              case measure => simp [intOf]; omega
          · have hib : inB ws x = false := by simp [inB, hin]
            rw [hib] at hct
            have HP : Hid (∀ W, Fq W g bn be 20 1 L → Calls Try.prog 30 #[.pointer (some ⟨g, 0, none⟩), .int .i64 0, .int .i64 x] W fun e w' => e = .returned (.bool true) ∧ Fq w' g bn be 20 1 (up L 0 (L 0 ++ [x])) ∧ ButL [bn, be] W.heap.size W w') := Lib.hid (fun W hW => q_push_yes hW 0 x (by decide) hx20 (fun j hj => by
              have : j = 0 := by omega
              subst this
              rw [hL]
              exact hin))
            have HL := Lib.hid hL
            clear hL hib
            go_wp2_with fail
            go_region_held3 (fun w' => w'.cell? ⟨rb, ro + k, none⟩ = some (.int .i64 x) ∧ w'.cell? ⟨bt, x, none⟩ = some (.bool false)) (first | exact ⟨hx1, hct⟩ | exact ⟨hx3, hct3⟩) (first | (go_at_call 30; refine (HP.out _ (hq.ext hdr)).mono ?_; rintro e w3 ⟨rfl, hq3, hu3⟩; have hu3' := ButL.pre' hdr hu3; have hx3 : w3.cell? ⟨rb, ro + k, none⟩ = some (.int .i64 x) := (World.cell?_of_block (a := ⟨rb, ro + k, none⟩) (hu3'.block rb (cell_lt hx1) (by simp; omega))).trans hx1; have hct3 : w3.cell? ⟨bt, x, none⟩ = some (.bool false) := (World.cell?_of_block (a := ⟨bt, x, none⟩) (hu3'.block bt htl (by simp; omega))).trans hct))
            all_goals
              have hT3 := Blk.butL hT hu3' (by simp; omega)
              have hown3 := owns_butL hown hu3' (by simp; omega)
              have hb3 : Below w.heap.size w w3 := hb.trans (hu3'.below (by simp; omega) hb.size)
              have hsz3 : bt + 1 ≤ w3.heap.size := by have := hu3'.size; omega
              go_wp2_with (first | (refine wpList_build1 (by rfl) 28 3 _ (by rfl) (.int .i64 0) 1 Try.underlying28 (by kernel_rfl) ⟨by decide, by decide⟩ (.int .i64 x) (by rfl) #[.int .i64 x] (by kernel_rfl) ?_; intro w5 hB5 hb5 hz5'; have hz5 := Lib.hid hz5'; clear hz5'; have hown5 := owns_ext hown3 hb5) | (refine wpList_append_rd (by rfl) _ _ _ (by rfl) (bt + 1) 3 (.int .i64 0) 1 8 Try.underlying28 (by kernel_rfl) ⟨rfl, by decide⟩ _ ws.length _ (by rfl) hown5 (some ⟨w3.heap.size, 0, none⟩) 1 1 [natR x] (by rfl) ?_ ⟨rfl, by simp [natR, Value.oneCell']⟩ (by simp) ?_ ?_ ?_; (next => exact rd_own hB5 (by simp [natR]) (n := 1) (by simp [natR])); (next => unfold maxLen; omega); (next => have := hz5.out; omega); intro v6 w6 hown6 hb6 hz6 hk6; have hT6 : Blk w6 bt 4 cs := (hb6.block bt (by omega)).trans (hT3.ext hb5); have hx6 : w6.cell? ⟨rb, ro + k, none⟩ = some (.int .i64 x) := (World.cell?_of_block (a := ⟨rb, ro + k, none⟩) ((hb6.block rb (show rb < bt + 1 by omega)).trans (hb5.block rb (show rb < w3.heap.size by omega)))).trans hx3) | (refine wpList_store_fld (by rfl) _ _ _ (by rfl) _ _ (by rfl) _ (by rfl) _ _ hT6 ?_ ?_ (by rfl) (by rfl) ?_; (next => first | omega | ((try simp) <;> omega)); (next => kernel_rfl); intro w7 hT7 hU7) | fail)
              have hzz := hz5.out
              have e1 : (ws ++ [x]).length = ws.length + 1 := by simp
              have e2 : ints (ws ++ [x]) = ints ws ++ [natR x].flatten := by simp [ints, natR]
              have hown7 : w7.ownsRow (bt + 1) 3 1 v6 (ws ++ [x]).length (ints (ws ++ [x])) := by rw [e1, e2]; exact owns_upd hown6 hU7 (by omega)
              have hq7 := ((hq3.ext hb5).keep (hb6.block g (by omega)) (hb6.block bn (by omega)) (hb6.block be (by omega))).keep (hU7.block g (by omega)) (hU7.block bn (by omega)) (hU7.block be (by omega))
              have hb7 : Below w.heap.size w w7 := below_upd ((below_ext hb3 hb5).trans (hb6.mono (by omega))) hwB hU7
              go_roundw
              case rel => exact ⟨k + 1, ws ++ [x], by go_num, by omega, ⟨⟨_, by rw [up_same, HL.out], hq7⟩, ⟨_, hT7, (hC.set hx20 true).eq (inB_push ws x)⟩, hown7, List.nodup_append.2 ⟨hnd, by simp, fun a ha b hb e => hin (by simp at hb; rw [← hb, ← e]; exact ha)⟩, fun a ha => by
                simp at ha
                rcases ha with ha | ha
                · exact hlt20 a ha
                · omega, by rw [e1]; omega, hb7, by have := hU7.size; omega⟩⟩
              case measure => simp [intOf]; omega
    · obtain ⟨A, cap, rfl, hrd, hfar⟩ := owns_slice hO.own
      obtain ⟨⟨L, hL, hq⟩, hT, _, hnd, hlt20, hlen, hb, hsz⟩ := hO
      have hW : Two (bt + 1) w wr g bn be bt A ws (lft (inB ws) ws) (inB ws) := ⟨⟨L, by rw [hL, lft_all], hq⟩, hT, hrd, hfar, hb, hsz⟩
      have hwl : ws.length ≤ 60 := by omega
      clear hL hq hT hrd hfar hb hsz
      go_wp2_with fail
      obtain ⟨wo, rfl⟩ : ∃ wo : World, wo = wr := ⟨_, rfl⟩
      go_loopw [10] (fun i wr => ∃ (j : Nat) (p : Nat → Bool), i = .int .i64 j ∧ j ≤ gs.length ∧ (∀ y, p y = true → y ∈ ws) ∧ Two (bt + 1) w wr g bn be bt A ws (lft p ws) p) (fun i _ => gs.length - (intOf i).toNat)
      case atStart => exact ⟨0, inB ws, rfl, Nat.zero_le _, fun y hy => by simpa [inB] using hy, hW⟩
      case round =>
        obtain ⟨j, p, rfl, hj, hp, hP⟩ := hrel
        clear hW
        by_cases hlt2 : j < gs.length
        · obtain ⟨rb, ro, rfl, hcx⟩ := (HG.out).at hlt2
          have hx0 := hcx 0 _ rfl
          simp only [Nat.mul_one, Nat.add_zero] at hx0
          have hrb := cell_lt hx0
          have hx1 : wr.cell? ⟨rb, ro + j, none⟩ = some (.int .i64 gs[j]) := (hP.below.cell (p := ⟨rb, ro + j, none⟩) hrb).trans hx0
          by_cases hneg : gs[j] < 0
          · go_wp2_with (first | (go_at_call 24; refine (alive_any _).mono ?_; rintro e w'' ⟨rfl, hb3⟩) | fail)
            go_ret
            exact ⟨rfl, below_ext hP.below hb3⟩
          · by_cases hbig : 19 < gs[j]
            · go_wp2_with (first | (go_at_call 24; refine (alive_any _).mono ?_; rintro e w'' ⟨rfl, hb3⟩) | fail)
              go_ret
              exact ⟨rfl, below_ext hP.below hb3⟩
            · obtain ⟨x, hx⟩ : ∃ x : Nat, gs[j] = x := ⟨gs[j].toNat, by omega⟩
              have hx20 : x < 20 := by omega
              rw [hx] at hx1 hx0
              clear hneg hbig hx hcx
              obtain ⟨⟨L, hL, hq⟩, ⟨cs, hT, hC⟩, hrd, hfar, hb, hsz⟩ := hP
              have hsize := hC.1
              have hct : wr.cell? ⟨bt, x, none⟩ = some (.bool (p x)) := (hT.cell x).trans (hC.2 x hx20)
              have hx20' : (x : Int) ≤ 19 := by omega
              have hx20a : (x : Int) < 20 := by omega
              have hx20b : (0 : Int) ≤ (x : Int) := by omega
              have htl := hT.lt
              cases hin : p x with
              | true =>
                rw [hin] at hct
                obtain ⟨a, b, h1, h2⟩ := lft_off hnd (hp x hin) hin
                have HR := Lib.hid (q_remove_yes hq 0 x a b (by decide) (by rw [hL]; exact h1))
                clear hL h1 hin
                have H2 := Lib.hid h2
                clear h2
                go_wp2_with fail
                refine HR.out.mono ?_
                rintro e w3 ⟨rfl, hq3, hu3⟩
                have hx3 : w3.cell? ⟨rb, ro + j, none⟩ = some (.int .i64 x) := (World.cell?_of_block (a := ⟨rb, ro + j, none⟩) (hu3.block rb (cell_lt hx1) (by simp; omega))).trans hx1
                have hct3 : w3.cell? ⟨bt, x, none⟩ = some (.bool true) := (World.cell?_of_block (a := ⟨bt, x, none⟩) (hu3.block bt htl (by simp; omega))).trans hct
                have hT3 := Blk.butL hT hu3 (by simp; omega)
                go_wp2_with (first | (refine wpList_store_fld (by rfl) _ _ _ (by rfl) _ _ (by rfl) _ (by rfl) _ _ hT3 ?_ ?_ (by rfl) (by rfl) ?_; (next => first | omega | ((try simp) <;> omega)); (next => kernel_rfl); intro w4 hT4 hU4) | fail)
                have hz3 := hu3.size
                have hz4 := hU4.size
                go_roundw
                case rel => exact ⟨j + 1, up p x false, by go_num, by omega, fun y hy => hp y (by
                  by_cases e : y = x
                  · subst e; rw [up_same] at hy; cases hy
                  · rwa [up_ne _ _ e] at hy), ⟨⟨_, by rw [up_same]; exact H2.out.symm, hq3.keep (hU4.block _ (by omega)) (hU4.block _ (by omega)) (hU4.block _ (by omega))⟩, ⟨_, hT4, hC.set hx20 false⟩, hrd.keep (fun c e => (hU4.block _ (by have := hfar c e; omega)).trans (hu3.block _ (hfar c e).2 (by have := hfar c e; simp; omega))), fun c e => by have := hfar c e; omega, below_upd (hb.trans (hu3.below (by simp; omega) hb.size)) hwB hU4, by omega⟩⟩
                case measure => simp [intOf]; omega
              | false =>
                rw [hin] at hct
                have HR := Lib.hid (q_remove_none hq x (fun k hk i hi => by
                  have : i = 0 := by omega
                  subst this
                  have : k = x := by omega
                  subst this
                  rw [hL]
                  exact lft_none hin))
                have HL := Lib.hid hL
                have HI := Lib.hid hin
                clear hL hin
                go_wp2_with fail
                refine HR.out.mono ?_
                rintro e w3 ⟨rfl, rfl⟩
                go_wp2_with (first | (refine wpList_store_fld (by rfl) _ _ _ (by rfl) _ _ (by rfl) _ (by rfl) _ _ hT ?_ ?_ (by rfl) (by rfl) ?_; (next => first | omega | ((try simp) <;> omega)); (next => kernel_rfl); intro w4 hT4 hU4) | fail)
                have hz4 := hU4.size
                have hup : up p x false = p := by
                  funext y
                  by_cases e : y = x
                  · subst e; rw [up_same, HI.out]
                  · rw [up_ne _ _ e]
                go_roundw
                case rel => exact ⟨j + 1, p, by go_num, by omega, hp, ⟨⟨L, HL.out, hq.keep (hU4.block _ (by omega)) (hU4.block _ (by omega)) (hU4.block _ (by omega))⟩, ⟨_, hT4, (hC.set hx20 false).eq hup⟩, hrd.keep (fun c e => hU4.block _ (by have := hfar c e; omega)), fun c e => by have := hfar c e; omega, below_upd hb hwB hU4, by omega⟩⟩
                case measure => simp [intOf]; omega
        · go_wp2_with fail
          obtain ⟨wq, rfl⟩ : ∃ wq : World, wq = wr := ⟨_, rfl⟩
          go_loopw [13] (fun i wr => ∃ (m : Nat), i = .int .i64 m ∧ m ≤ ws.length ∧ Two (bt + 1) w wr g bn be bt A ws (lft p (ws.drop m)) p) (fun i _ => ws.length - (intOf i).toNat)
          case atStart => exact ⟨0, rfl, Nat.zero_le _, hP⟩
          case round =>
            obtain ⟨m, rfl, hm, hQ⟩ := hrel
            clear hP
            by_cases hlt3 : m < ws.length
            · have hdrop := List.drop_eq_getElem_cons hlt3
              obtain ⟨⟨L, hL, hq⟩, ⟨cs, hT, hC⟩, hrd, hfar, hb, hsz⟩ := hQ
              obtain ⟨rb, ro, hAe, hcx⟩ := hrd.at hlt3
              have hx0 := hcx 0 _ rfl
              simp only [Nat.mul_one, Nat.add_zero] at hx0
              have hx20 := hlt20 _ (List.getElem_mem hlt3)
              obtain ⟨x, hx⟩ : ∃ x, ws[m] = x := ⟨_, rfl⟩
              rw [hx] at hx0 hx20 hdrop
              subst hAe
              have hfr := hfar _ rfl
              have hsize := hC.1
              have hct : wr.cell? ⟨bt, x, none⟩ = some (.bool (p x)) := (hT.cell x).trans (hC.2 x hx20)
              have hx20a : (x : Int) < 20 := by omega
              have hx20b : (0 : Int) ≤ (x : Int) := by omega
              have htl := hT.lt
              clear hx hcx
              cases hin : p x with
              | false =>
                rw [hin] at hct
                have hl : lft p (ws.drop m) = lft p (ws.drop (m + 1)) := by rw [hdrop]; simp [lft, List.filter_cons, hin]
                rw [hl] at hL
                have HL := Lib.hid hL
                clear hL hl hin hdrop
                go_wp2_with fail
                go_roundw
                case rel => exact ⟨m + 1, by go_num, by omega, ⟨⟨L, HL.out, hq⟩, ⟨cs, hT, hC⟩, hrd, hfar, hb, hsz⟩⟩
                case measure => simp [intOf]; omega
              | true =>
                rw [hin] at hct
                have hl : lft p (ws.drop m) = x :: lft p (ws.drop (m + 1)) := by rw [hdrop]; simp [lft, List.filter_cons, hin]
                rw [hl] at hL
                have HP : Hid (Calls Try.prog 32 #[.pointer (some ⟨g, 0, none⟩), .int .i64 0] wr fun e w' => e = .returned (.tuple #[.int .i64 x, .bool true]) ∧ Fq w' g bn be 20 1 (up L 0 (lft p (ws.drop (m + 1)))) ∧ ButL [bn, be] wr.heap.size wr w') := Lib.hid (q_pop_some hq 0 x _ (by decide) hL)
                clear hL hl hin hdrop
                go_wp2_with fail
                refine HP.out.mono ?_
                rintro e w3 ⟨rfl, hq3, hu3⟩
                have hx3 : w3.cell? ⟨rb, ro + m, none⟩ = some (.int .i64 x) := (World.cell?_of_block (a := ⟨rb, ro + m, none⟩) (hu3.block rb hfr.2 (by have := hfr.1; simp at this ⊢; omega))).trans hx0
                go_wp2_with fail
                have hz3 := hu3.size
                go_roundw
                case rel => exact ⟨m + 1, by go_num, by omega, ⟨⟨_, up_same _ _ _, hq3⟩, ⟨cs, Blk.butL hT hu3 (by simp; omega), hC⟩, hrd.keep (fun c e => hu3.block _ (hfar c e).2 (by have := hfar c e; simp; omega)), fun c e => by have := hfar c e; omega, hb.trans (hu3.below (by simp; omega) hb.size), by omega⟩⟩
                case measure => simp [intOf]; omega
            · have hmw : ws.drop m = [] := List.drop_eq_nil_of_le (by omega)
              obtain ⟨⟨L, hL, hq⟩, _, _, _, hb, _⟩ := hQ
              have HP : Hid (Calls Try.prog 32 #[.pointer (some ⟨g, 0, none⟩), .int .i64 0] wr fun e w' => e = .returned (.tuple #[.int .i64 0, .bool false]) ∧ Below wr.heap.size wr w') := Lib.hid (q_pop_none hq 0 (fun k hk _ => by
                have : k = 0 := by omega
                subst this
                rw [hL, hmw]
                rfl))
              clear hL hmw
              go_wp2_with fail
              refine HP.out.mono ?_
              rintro e w3 ⟨rfl, hb3⟩
              go_wp2_with (first | (go_at_call 24; refine (alive_any _).mono ?_; rintro e w'' ⟨rfl, hb4⟩) | fail)
              go_ret
              exact ⟨rfl, below_ext (below_ext hb hb3) hb4⟩
open Go.ChangeShapes Go.WideShapes Go.ChangeAt Go.Deep
set_option maxRecDepth 100000 in
theorem argsFifoOrder (H : Type) (enc : TypeId × Value → H) (W : World) (args : Array Value) (hargs : Args Try.checked H enc [28, 28] W args) :
    Calls Try.prog 8 args W fun e W' => e = .returned (.bool true) ∧ Below W.heap.size W W' := by
  obtain ⟨base, ds, p, hval, hA⟩ := hargs
  obtain ⟨v0, vs0, d0, ds0, p0, q0, hargs, rfl, rfl, h0, r0⟩ := trodAll_cons hA
  obtain ⟨v1, vs1, d1, ds1, p1, q1, rfl, rfl, rfl, h1, r1⟩ := trodAll_cons r0
  obtain ⟨rfl, rfl, rfl⟩ := trodAll_nil r1
  obtain rfl : args = #[v0, v1] := by cases args; simp_all
  obtain ⟨A, la, ca, rowa, rfl, hla, hlac, hca, hfa, ha⟩ := open_rows (ks := [K]) 5 Try.underlying28 (by kernel_rfl) (by kernel_rfl) (by decide) (hval 0 _ v0 rfl rfl) h0
  obtain ⟨B, lb, cb, rowb, rfl, hlb, hlbc, hcb, hfb, hb⟩ := open_rows (ks := [K]) 5 Try.underlying28 (by kernel_rfl) (by kernel_rfl) (by decide) (hval 1 _ v1 rfl rfl) h1
  obtain ⟨xs, rfl, _⟩ := rowsOf (fun vs h => fitIntC h) rowa hfa
  obtain ⟨gs, rfl, _⟩ := rowsOf (fun vs h => fitIntC h) rowb hfb
  rw [List.length_map] at hla hlb
  subst hla hlb
  exact order_any xs gs A B ca cb W ha hb (by omega) (by omega)
theorem ownFifoOrder : ownKnob Try.prog.godebug = none := by kernel_rfl
theorem laidFifoOrder : laidOutB Try.prog = true := by kernel_rfl
set_option maxRecDepth 100000 in
theorem liftedFifoOrder (os : Os) (started : os.Started) (H : Type) (enc : TypeId × Value → H) :
    ReturnsInHanded {} Try.checked os 8 .any (Rows.fifoOrderSpec.pre6 enc Try.prog Try.f8 Rows.fifoOrderRow.domain false) (Rows.fifoOrderSpec.post enc Try.prog Try.f8 false true false false) :=
  law_lifted (C := Try.checked) (ts := [28, 28]) (tb := 4) ownFifoOrder laidFifoOrder started (by kernel_rfl) Try.func8 (by kernel_rfl)
    (ChangeSpec.witness6 (enc := enc) (C := Try.checked) false ⟨#[], #[.slice none 0 0, .slice none 0 0], []⟩ 8 (by kernel_rfl) (by kernel_rfl) (by kernel_rfl) (by kernel_rfl))
    rfl (by kernel_rfl) Try.underlying4 (by kernel_rfl)
    (fun ds h => by
      match ds, h with
      | [d0, d1], _ => rfl)
    (fun W args h => argsFifoOrder H enc W args h)
theorem provedFifoOrder : Rows.FifoOrderSaid :=
  OpenClaim.holds_of_wide 8 Try.f8 rfl rfl rfl rfl rfl rfl rfl ⟨rfl, rfl, rfl, rfl, rfl⟩ rfl rfl rfl rfl rfl (by kernel_rfl) Try.func8 (by kernel_rfl)
    (of_decide_eq_true (by kernel_rfl)) (by unfold Func.isWrapper; first | (rw [if_pos (by decide +kernel)]; kernel_rfl) | (rw [if_neg (by decide +kernel)]; exact ⟨rfl, rfl⟩))
    (fun os started H enc _ => liftedFifoOrder os started H enc)
#print axioms provedFifoOrder
end Fif
end Go.Proofs.Ytodgeakkecaliaa
