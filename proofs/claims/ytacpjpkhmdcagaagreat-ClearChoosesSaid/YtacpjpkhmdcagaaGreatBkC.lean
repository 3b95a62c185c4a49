/- This text proves what a book is, and how one is made: contracts of the package book: of, key, New. It has no conditions but those that it states. -/
import Derived.Test.YtacpjpkhmdcagaaGreatBkW
namespace Go.Proofs.YtacpjpkhmdcagaaGreat
set_option linter.unusedVariables false
open Go.RowKit
namespace Bk
set_option maxHeartbeats 1000000
set_option maxRecDepth 10000
open Are (St Ar)
open Lad (La LStep Fresh)
open Fif (Fq up up_same up_ne)
open Idx (R3 Xq)
def okO (o : Ord) : Prop := (o.side = 0 ∨ o.side = 1) ∧ (1 ≤ o.price ∧ o.price ≤ 1099511627776) ∧ (1 ≤ o.qty ∧ o.qty ≤ 4294967296) ∧ Idx.Wf o.id
def sid (n : Nat) (ss : List Sl) : List Sl := ss.filter fun x => decide (x.2.side = (n : Int))
def Rr (ss : List Sl) : List R3 := ss.map fun x => ⟨0, x.2.id, (x.1 : Int)⟩
/-- A book's parts tell of its orders. -/
structure Bi (N most : Nat) (ss : List Sl) (d : Bd) : Prop where
  ai : AI N ss d.st d.fl
  si : ∀ n : Nat, n < 2 → SI (n : Int) most (sid n ss) (d.ls n) (d.u n) (d.L n)
  ok : ∀ x ∈ ss, okO x.2
  ids : (ss.map (·.2.id)).Nodup
  lim : 1 ≤ N ∧ N ≤ 500 ∧ 1 ≤ most ∧ most ≤ 200
/-- A book of orders, each in its slot, lies there; its map turned k times at most. -/
def Bs (w : World) (c : Nat → Nat) (b N most k : Nat) (ss : List Sl) : Prop := ∃ d, Bw w c b N most k d (Rr ss) ∧ Bi N most ss d
theorem of_yes {w : World} {b m : Nat} (i : Int) (hi : i = (m : Int)) (hm : m < 2) : Calls Tryz.prog 45 #[.pointer (some ⟨b, 0, none⟩), .int .i64 i] w fun e w' => e = .returned (.pointer (some ⟨b, 1 + m * 2, none⟩)) ∧ w = w' := by
  subst hi
  have h : m = 0 ∨ m = 1 := by omega
  rcases h with rfl | rfl
  · go_enter Tryz.func45, Tryz.ntmps45
    go_wp2_with fail
    go_ret
    exact ⟨rfl, rfl⟩
  · go_enter Tryz.func45, Tryz.ntmps45
    go_wp2_with fail
    go_ret
    exact ⟨rfl, rfl⟩
theorem of_no {w : World} {p : Option Addr} (i : Int) (h : p = none ∨ (i ≠ 0 ∧ i ≠ 1)) : Calls Tryz.prog 45 #[.pointer p, .int .i64 i] w fun e w' => e = .returned (.pointer none) ∧ w = w' := by
  rcases h with rfl | ⟨h0, h1⟩
  · go_enter Tryz.func45, Tryz.ntmps45
    go_wp2_with fail
    go_ret
    exact ⟨rfl, rfl⟩
  · have e0 : (i != 0) = true := by simpa using h0
    have e1 : (i != 1) = true := by simpa using h1
    cases p with
    | none =>
      go_enter Tryz.func45, Tryz.ntmps45
      go_wp2_with fail
      go_ret
      exact ⟨rfl, rfl⟩
    | some a =>
      go_enter Tryz.func45, Tryz.ntmps45
      go_wp2_with fail
      go_ret
      exact ⟨rfl, rfl⟩
theorem key_any (i : Int) (w : World) : Calls Tryz.prog 47 #[.int .i64 i] w fun e w' => e = .returned (.agg #[.int .i64 0, .int .i64 i]) ∧ Below w.heap.size w w' := by
  go_enter Tryz.func47, Tryz.ntmps47
  go_wp2_with fail
  refine bodyPost_ret (v := .agg #[.int .i64 0, .int .i64 i]) (by simp [results, Tryz.results47, go_sem]; first | done | rfl | exact ⟨rfl, rfl⟩) rfl ⟨rfl, by (repeat (first | with_reducible exact Below.refl _ _ | (with_reducible assumption) | (with_reducible refine below_alloc ?_ _) | (with_reducible refine below_ext (w1 := ?_) ?_ ?_; rotate_left 2; (with_reducible assumption)) | (with_reducible refine Below.setCell ?_ ?_ _; rotate_left; ((try simp) <;> omega)) | (with_reducible refine Below.drew ?_) | (with_reducible refine below_drewN ?_ _) | fail))⟩
theorem built_book (p q : Option Addr) : Tryz.prog.built 91 [(0, .pointer p), (2, .pointer q)] = some #[.pointer p, .pointer none, .pointer none, .pointer none, .pointer none, .pointer q] := by kernel_rfl
/-- The rounds of New: what has been made, in the order of time. -/
structure Nw (w wr : World) (N most k b a x bs bm t0 t1 t2 t3 t4 t5 t6 : Nat) (l q bn be : Nat → Nat) : Prop where
  hd : Blk wr b 91 #[.pointer (some ⟨a, 0, none⟩), .pointer (if 0 < k then some ⟨l 0, 0, none⟩ else none), .pointer (if 0 < k then some ⟨q 0, 0, none⟩ else none), .pointer (if 1 < k then some ⟨l 1, 0, none⟩ else none), .pointer (if 1 < k then some ⟨q 1, 0, none⟩ else none), .pointer (some ⟨x, 0, none⟩)]
  ar : Ar wr a (Are.new0 N)
  ix : Xq wr x bs bm 0 []
  la : ∀ n : Nat, n < k → La wr (l n) (n : Int) (most : Int) (.slice none 0 0) [] (fun _ => 0)
  fq : ∀ n, n < k → Fq wr (q n) (bn n) (be n) N most (fun _ => [])
  ha : w.heap.size ≤ a ∧ a < t0
  hx : (t0 ≤ x ∧ x < t1) ∧ (t0 ≤ bs ∧ bs < t1) ∧ (t0 ≤ bm ∧ bm < t1)
  hb : t1 ≤ b ∧ b < t2
  h0 : 0 < k → (t2 ≤ l 0 ∧ l 0 < t3) ∧ (t3 ≤ q 0 ∧ q 0 < t4) ∧ (t3 ≤ bn 0 ∧ bn 0 < t4) ∧ (t3 ≤ be 0 ∧ be 0 < t4)
  h1 : 1 < k → (t4 ≤ l 1 ∧ l 1 < t5) ∧ (t5 ≤ q 1 ∧ q 1 < t6) ∧ (t5 ≤ bn 1 ∧ bn 1 < t6) ∧ (t5 ≤ be 1 ∧ be 1 < t6)
  ord : t2 ≤ t3 ∧ t3 ≤ t4 ∧ t4 ≤ t5 ∧ t5 ≤ t6
  size : (k = 0 → wr.heap.size = t2) ∧ (k = 1 → wr.heap.size = t4) ∧ (k = 2 → wr.heap.size = t6)
  below : Below w.heap.size w wr
def colour (t t0 t1 t2 t3 t4 t5 t6 : Nat) (r : Nat) : Nat :=
  if r < t then 9 else if r < t0 then 1 else if r < t1 then 6 else if r < t2 then 0 else if r < t3 then 2 else if r < t4 then 4 else if r < t5 then 3 else if r < t6 then 5 else 9
theorem Nw.bs {w wr : World} {N most b a x bs bm t0 t1 t2 t3 t4 t5 t6 : Nat} {l q bn be : Nat → Nat} (W : Nw w wr N most 2 b a x bs bm t0 t1 t2 t3 t4 t5 t6 l q bn be) (hN : 1 ≤ N ∧ N ≤ 500) (hm : 1 ≤ most ∧ most ≤ 200) :
    Bs wr (colour w.heap.size t0 t1 t2 t3 t4 t5 t6) b N most 0 [] := by
  have ha := W.ha
  have hx := W.hx
  have hb := W.hb
  have h0 := W.h0 (by omega)
  have h1 := W.h1 (by omega)
  have ho := W.ord
  have hz := W.size.2.2 rfl
  refine ⟨⟨a, x, bs, bm, l, q, bn, be, fun _ => .slice none 0 0, fun _ => [], fun _ _ => 0, fun _ _ => [], Are.new0 N, List.range' 0 N⟩, ⟨W.hd, W.ar, fun n hn => W.la n hn, fun n hn => W.fq n hn, W.ix, ?_, ?_, ?_, ?_, ?_, ?_, ?_⟩, ⟨ai_new hN.1, fun n _ => si_start _ _, by simp, by simp, hN.1, hN.2, hm.1, hm.2⟩⟩
  · show colour _ _ _ _ _ _ _ _ b = 0
    unfold colour
    rw [if_neg (by omega), if_neg (by omega), if_neg (by omega), if_pos (by omega)]
  · show colour _ _ _ _ _ _ _ _ a = 1
    unfold colour
    rw [if_neg (by omega), if_pos (by omega)]
  · intro n hn
    show colour _ _ _ _ _ _ _ _ (l n) = 2 + n
    have : n = 0 ∨ n = 1 := by omega
    unfold colour
    rcases this with rfl | rfl
    · rw [if_neg (by omega), if_neg (by omega), if_neg (by omega), if_neg (by omega), if_pos (by omega)]
    · rw [if_neg (by omega), if_neg (by omega), if_neg (by omega), if_neg (by omega), if_neg (by omega), if_neg (by omega), if_pos (by omega)]
  · intro n hn
    show colour _ _ _ _ _ _ _ _ (q n) = 4 + n ∧ colour _ _ _ _ _ _ _ _ (bn n) = 4 + n ∧ colour _ _ _ _ _ _ _ _ (be n) = 4 + n
    have : n = 0 ∨ n = 1 := by omega
    unfold colour
    rcases this with rfl | rfl
    · refine ⟨?_, ?_, ?_⟩ <;> rw [if_neg (by omega), if_neg (by omega), if_neg (by omega), if_neg (by omega), if_neg (by omega), if_pos (by omega)]
    · refine ⟨?_, ?_, ?_⟩ <;> rw [if_neg (by omega), if_neg (by omega), if_neg (by omega), if_neg (by omega), if_neg (by omega), if_neg (by omega), if_neg (by omega), if_pos (by omega)]
  · show colour _ _ _ _ _ _ _ _ x = 6 ∧ colour _ _ _ _ _ _ _ _ bs = 6 ∧ colour _ _ _ _ _ _ _ _ bm = 6
    unfold colour
    refine ⟨?_, ?_, ?_⟩ <;> rw [if_neg (by omega), if_neg (by omega), if_pos (by omega)]
  · intro n _ r hr
    cases hr
  · intro r hr
    unfold colour
    rw [if_neg (by omega), if_neg (by omega), if_neg (by omega), if_neg (by omega), if_neg (by omega), if_neg (by omega), if_neg (by omega), if_neg (by omega)]
theorem Nw.next0 {w wr w4 w5 w6 : World} {N most b a x bs bm t0 t1 t2 t3 t4 t5 t6 qq qn qe : Nat} {l q bn be : Nat → Nat} (W : Nw w wr N most 0 b a x bs bm t0 t1 t2 t3 t4 t5 t6 l q bn be)
    (hL4 : La w4 wr.heap.size ((0 : Nat) : Int) (most : Int) (.slice none 0 0) [] (fun _ => 0)) (hb4 : Below wr.heap.size wr w4) (hq : w4.heap.size ≤ qq ∧ w4.heap.size ≤ qn ∧ w4.heap.size ≤ qe) (hF5 : Fq w5 qq qn qe N most (fun _ => [])) (hb5 : Below w4.heap.size w4 w5)
    (hB6 : Blk w6 b 91 #[.pointer (some ⟨a, 0, none⟩), .pointer (some ⟨wr.heap.size, 0, none⟩), .pointer (some ⟨qq, 0, none⟩), .pointer none, .pointer none, .pointer (some ⟨x, 0, none⟩)]) (hU : Upd b w5 w6) :
    Nw w w6 N most 1 b a x bs bm t0 t1 wr.heap.size w4.heap.size w5.heap.size w5.heap.size w5.heap.size (fun _ => wr.heap.size) (fun _ => qq) (fun _ => qn) (fun _ => qe) := by
  have hz := W.size.1 rfl
  have ha := W.ha
  have hx := W.hx
  have hb := W.hb
  have hl4 := hL4.hd.lt
  have hs4 := hb4.size
  have hs5 := hb5.size
  have hl5 := hF5.lt
  have hbl := W.hd.lt
  have hw := W.below.size
  have h46 := below_ext hb4 hb5
  have hzU := hU.size
  refine ⟨hB6, ar_keep (W.ar.ext h46) (hU.block _ (by omega)), xq_keep (W.ix.ext h46) (hU.block _ (by omega)) (hU.block _ (by omega)) (hU.block _ (by omega)), ?_, ?_, ha, hx, ⟨hb.1, by omega⟩, ?_, fun h => absurd h (by omega), ⟨by omega, by omega, by omega, by omega⟩, ⟨fun h => absurd h (by omega), fun _ => hzU, fun h => absurd h (by omega)⟩, ?_⟩
  · intro n hn
    obtain rfl : n = 0 := by omega
    exact la_keep (hL4.ext hb5) (hU.block _ (by omega)) (fun r hr => by cases hr)
  · intro n hn
    obtain rfl : n = 0 := by omega
    exact fq_keep hF5 (hU.block _ (by omega)) (hU.block _ (by omega)) (hU.block _ (by omega))
  · intro _
    exact ⟨⟨Nat.le_refl _, hl4⟩, ⟨hq.1, hl5.1⟩, ⟨hq.2.1, hl5.2.1⟩, ⟨hq.2.2, hl5.2.2⟩⟩
  · exact below_upd (below_ext W.below h46) (by omega) hU
theorem Nw.next1 {w wr w4 w5 w6 : World} {N most b a x bs bm t0 t1 t2 t3 t4 t5 t6 qq qn qe : Nat} {l q bn be : Nat → Nat} (W : Nw w wr N most 1 b a x bs bm t0 t1 t2 t3 t4 t5 t6 l q bn be)
    (hL4 : La w4 wr.heap.size ((1 : Nat) : Int) (most : Int) (.slice none 0 0) [] (fun _ => 0)) (hb4 : Below wr.heap.size wr w4) (hq : w4.heap.size ≤ qq ∧ w4.heap.size ≤ qn ∧ w4.heap.size ≤ qe) (hF5 : Fq w5 qq qn qe N most (fun _ => [])) (hb5 : Below w4.heap.size w4 w5)
    (hB6 : Blk w6 b 91 #[.pointer (some ⟨a, 0, none⟩), .pointer (some ⟨l 0, 0, none⟩), .pointer (some ⟨q 0, 0, none⟩), .pointer (some ⟨wr.heap.size, 0, none⟩), .pointer (some ⟨qq, 0, none⟩), .pointer (some ⟨x, 0, none⟩)]) (hU : Upd b w5 w6) :
    Nw w w6 N most 2 b a x bs bm t0 t1 t2 t3 t4 w4.heap.size w5.heap.size (up l 1 wr.heap.size) (up q 1 qq) (up bn 1 qn) (up be 1 qe) := by
  have hz := W.size.2.1 rfl
  have ha := W.ha
  have hx := W.hx
  have hb := W.hb
  have h0 := W.h0 (by omega)
  have ho := W.ord
  have hl4 := hL4.hd.lt
  have hs4 := hb4.size
  have hs5 := hb5.size
  have hl5 := hF5.lt
  have hbl := W.hd.lt
  have hw := W.below.size
  have h46 := below_ext hb4 hb5
  have hzU := hU.size
  refine ⟨hB6, ar_keep (W.ar.ext h46) (hU.block _ (by omega)), xq_keep (W.ix.ext h46) (hU.block _ (by omega)) (hU.block _ (by omega)) (hU.block _ (by omega)), ?_, ?_, ha, hx, ⟨hb.1, by omega⟩, fun _ => h0, fun _ => ?_, ⟨by omega, by omega, by omega, by omega⟩, ⟨fun h => absurd h (by omega), fun h => absurd h (by omega), fun _ => hzU⟩, ?_⟩
  · intro n hn
    have : n = 0 ∨ n = 1 := by omega
    rcases this with rfl | rfl
    · exact la_keep ((W.la 0 (by omega)).ext h46) (hU.block _ (by show l 0 ≠ b; omega)) (fun r hr => by cases hr)
    · exact la_keep (hL4.ext hb5) (hU.block _ (by show wr.heap.size ≠ b; omega)) (fun r hr => by cases hr)
  · intro n hn
    have : n = 0 ∨ n = 1 := by omega
    rcases this with rfl | rfl
    · exact fq_keep ((W.fq 0 (by omega)).ext h46) (hU.block _ (by show q 0 ≠ b; omega)) (hU.block _ (by show bn 0 ≠ b; omega)) (hU.block _ (by show be 0 ≠ b; omega))
    · exact fq_keep hF5 (hU.block _ (by show qq ≠ b; omega)) (hU.block _ (by show qn ≠ b; omega)) (hU.block _ (by show qe ≠ b; omega))
  · exact ⟨⟨by show t4 ≤ wr.heap.size; omega, hl4⟩, ⟨hq.1, hl5.1⟩, ⟨hq.2.1, hl5.2.1⟩, ⟨hq.2.2, hl5.2.2⟩⟩
  · exact below_upd (below_ext W.below h46) (by omega) hU
def NewPost (N most : Nat) (w : World) (e : Ending) (w' : World) : Prop :=
  ∃ b c, e = .returned (.tuple #[.pointer (some ⟨b, 0, none⟩), .int .i64 0]) ∧ Bs w' c b N most 0 [] ∧ Below w.heap.size w w' ∧ ∀ q, q < w.heap.size → c q = 9
theorem new_ok (N most : Nat) (w : World) (hN : 1 ≤ N ∧ N ≤ 500) (hm : 1 ≤ most ∧ most ≤ 200) : Calls Tryz.prog 22 #[.int .i64 N, .int .i64 most] w (NewPost N most w) := by
  go_enter Tryz.func22, Tryz.ntmps22
  go_wp2_with fail
  refine (Are.new_any N _ hN.1 hN.2).mono ?_
  rintro e w1 ⟨a, rfl, ha, hA1, hb1⟩
  go_wp2_with fail
  refine (Idx.new_any _).mono ?_
  rintro e w2 ⟨x, bs, bm, rfl, ⟨hx1, hx2, hx3⟩, hX2, hb2⟩
  go_wp2_with (first | (refine wpList_build_is (by rfl) _ _ (by rfl) ?_ ?_ ?_; rotate_left; (next => simp only [List.map_toArray, List.map_cons, List.map_nil, go_sem]; exact built_book _ _)) | fail)
  have hB3 : Blk (w2.alloc (.cells #[.pointer (some ⟨a, 0, none⟩), .pointer none, .pointer none, .pointer none, .pointer none, .pointer (some ⟨x, 0, none⟩)] 91)) w2.heap.size 91 #[.pointer (some ⟨a, 0, none⟩), .pointer none, .pointer none, .pointer none, .pointer none, .pointer (some ⟨x, 0, none⟩)] := Blk.new _ _ _ _ rfl
  have hb3 : Below w2.heap.size w2 (w2.alloc (.cells #[.pointer (some ⟨a, 0, none⟩), .pointer none, .pointer none, .pointer none, .pointer none, .pointer (some ⟨x, 0, none⟩)] 91)) := by (repeat (first | with_reducible exact Below.refl _ _ | (with_reducible assumption) | (with_reducible refine below_alloc ?_ _) | (with_reducible refine below_ext (w1 := ?_) ?_ ?_; rotate_left 2; (with_reducible assumption)) | (with_reducible refine Below.setCell ?_ ?_ _; rotate_left; ((try simp) <;> omega)) | (with_reducible refine Below.drew ?_) | (with_reducible refine below_drewN ?_ _) | fail))
  have hz3 : (w2.alloc (.cells #[.pointer (some ⟨a, 0, none⟩), .pointer none, .pointer none, .pointer none, .pointer none, .pointer (some ⟨x, 0, none⟩)] 91)).heap.size = w2.heap.size + 1 := by simp only [sz_alloc]
  generalize w2.alloc (.cells #[.pointer (some ⟨a, 0, none⟩), .pointer none, .pointer none, .pointer none, .pointer none, .pointer (some ⟨x, 0, none⟩)] 91) = w3 at *
  obtain ⟨b, hbe⟩ : ∃ b, b = w2.heap.size := ⟨_, rfl⟩
  rw [← hbe] at hB3 ⊢
  have W0 : Nw w w3 N most 0 b a x bs bm w1.heap.size w2.heap.size w3.heap.size w3.heap.size w3.heap.size w3.heap.size w3.heap.size (fun _ => 0) (fun _ => 0) (fun _ => 0) (fun _ => 0) :=
    ⟨hB3, (hA1.ext hb2).ext hb3, hX2.ext hb3, fun n h => absurd h (by omega), fun n h => absurd h (by omega), ⟨ha, hA1.lt⟩, ⟨⟨hx1, hX2.lt.1⟩, ⟨hx2, hX2.lt.2.1⟩, ⟨hx3, hX2.lt.2.2⟩⟩, ⟨by omega, by omega⟩, fun h => absurd h (by omega), fun h => absurd h (by omega), ⟨by omega, by omega, by omega, by omega⟩, ⟨fun _ => rfl, fun h => absurd h (by omega), fun h => absurd h (by omega)⟩, below_ext (below_ext hb1 hb2) hb3⟩
  clear hB3 hA1 hX2 hz3 hbe hb1 hb2 hb3 ha hx1 hx2 hx3
  generalize w1.heap.size = t0 at *
  generalize w2.heap.size = t1 at *
  clear w1 w2
  have HN := Lib.hid hN
  have HM := Lib.hid hm
  clear hN hm
  go_loopw [26] (fun i wr => ∃ (k t2 t3 t4 t5 t6 : Nat) (l q bn be : Nat → Nat), i = .int .i64 k ∧ k ≤ 2 ∧ Nw w wr N most k b a x bs bm t0 t1 t2 t3 t4 t5 t6 l q bn be) (fun i _ => 2 - (intOf i).toNat)
  case atStart => exact ⟨0, _, _, _, _, _, _, _, _, _, rfl, by omega, W0⟩
  case round =>
    obtain ⟨k, t2, t3, t4, t5, t6, l, q, bn, be, rfl, hk, W⟩ := hrel
    clear W0
    by_cases hk2 : k < 2
    · have hk' : k = 0 ∨ k = 1 := by omega
      rcases hk' with rfl | rfl
      · go_wp2_with fail
        refine (Lad.new_ok _ (most : Int) _ (by omega) (by have := HM.out; omega)).mono ?_
        rintro e w4 ⟨rfl, hL4, hb4⟩
        go_wp2_with fail
        refine (Fif.fnew_any N most _ HN.out ⟨HM.out.1, by have := HM.out; omega⟩).mono ?_
        rintro e w5 ⟨qq, qn, qe, rfl, hq, hF5, hb5⟩
        have hB5 := (W.hd.ext hb4).ext hb5
        go_wp2_with (first | ((with_reducible show wpList _ _ _ (⟨_, .store _ _ _, _, _, _, _⟩ :: _) _ _); refine wpList_store_put (by rfl) 88 _ _ (by rfl) _ _ _ (by rfl) (by rfl) _ _ hB5 ?_ ?_ ?_ ?_; (next => kernel_rfl); (next => exact (by decide : 1 + 2 ≤ 6)); (next => simp [Value.oneCell']); intro w6 hB6 hU6) | fail)
        simp only [putC, List.setIfInBounds_toArray, List.set_cons_zero, List.set_cons_succ] at hB6
        have W6 := W.next0 hL4 hb4 hq hF5 hb5 hB6 hU6
        clear hB5 hB6 hU6 hL4 hF5 W
        go_roundw
        case rel => exact ⟨1, _, _, _, _, _, _, _, _, _, by go_num, by omega, W6⟩
        case measure => simp [intOf]
      · go_wp2_with fail
        refine (Lad.new_ok _ (most : Int) _ (by omega) (by have := HM.out; omega)).mono ?_
        rintro e w4 ⟨rfl, hL4, hb4⟩
        go_wp2_with fail
        refine (Fif.fnew_any N most _ HN.out ⟨HM.out.1, by have := HM.out; omega⟩).mono ?_
        rintro e w5 ⟨qq, qn, qe, rfl, hq, hF5, hb5⟩
        have hB5 := (W.hd.ext hb4).ext hb5
        go_wp2_with (first | ((with_reducible show wpList _ _ _ (⟨_, .store _ _ _, _, _, _, _⟩ :: _) _ _); refine wpList_store_put (by rfl) 88 _ _ (by rfl) _ _ _ (by rfl) (by rfl) _ _ hB5 ?_ ?_ ?_ ?_; (next => kernel_rfl); (next => exact (by decide : 3 + 2 ≤ 6)); (next => simp [Value.oneCell']); intro w6 hB6 hU6) | fail)
        simp only [putC, List.setIfInBounds_toArray, List.set_cons_zero, List.set_cons_succ] at hB6
        have W6 := W.next1 hL4 hb4 hq hF5 hb5 hB6 hU6
        clear hB5 hB6 hU6 hL4 hF5 W
        go_roundw
        case rel => exact ⟨2, _, _, _, _, _, _, _, _, _, by go_num, by omega, W6⟩
        case measure => simp [intOf]
    · obtain rfl : k = 2 := by omega
      go_wp2_with fail
      go_ret2
      have h0 := W.h0 (by omega)
      have h1 := W.h1 (by omega)
      exact ⟨b, _, rfl, W.bs HN.out HM.out, W.below, fun q hq => by unfold colour; rw [if_pos hq]⟩
end Bk
end Go.Proofs.YtacpjpkhmdcagaaGreat
