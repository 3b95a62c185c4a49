/- This text proves what the steps of removing and reducing an order do to a held book. It has no conditions but those that it states. -/
import Derived.Test.YtgaialcbpglhaaaBkAdd
import Derived.Test.YtgaialcbpglhaaaLadT
namespace Go.Proofs.Ytgaialcbpglhaaa
set_option linter.unusedVariables false
open Go.RowKit
namespace Lad
set_option maxHeartbeats 2000000
set_option maxRecDepth 10000
theorem flatL_upd1 : ∀ (ls : List Lvl) (i : Nat) (l : Lvl) (q : Int), ls[i]? = some l → (flatL ls).set (i * 4 + 1) (.int .i64 q) = flatL (ls.set i ⟨l.price, q, l.orders, l.queue⟩)
  | [], _, _, _, h => by simp at h
  | x :: t, 0, l, q, h => by
    obtain rfl : x = l := by simpa using h
    simp [flatL, Lvl.cells]
  | x :: t, i + 1, l, q, h => by
    have ih := flatL_upd1 t i l q (by simpa using h)
    have e : ∀ y : Lvl, flatL (y :: t) = .int .i64 y.price :: .int .i64 y.qty :: .int .i64 y.orders :: .int .i64 y.queue :: flatL t := fun _ => rfl
    have e2 : flatL (x :: t.set i ⟨l.price, q, l.orders, l.queue⟩) = .int .i64 x.price :: .int .i64 x.qty :: .int .i64 x.orders :: .int .i64 x.queue :: flatL (t.set i ⟨l.price, q, l.orders, l.queue⟩) := rfl
    rw [e, show (i + 1) * 4 + 1 = (i * 4 + 1) + 1 + 1 + 1 + 1 by omega, List.set_cons_succ, List.set_cons_succ, List.set_cons_succ, List.set_cons_succ, ih, List.set_cons_succ, e2]
section
variable {w : World} {g : Nat} {side most : Int} {v : Value} {ls : List Lvl} {u : Nat → Nat}
theorem La.upd1 {rb ro cap i : Nat} {l : Lvl} (L : La w g side most (.slice (some ⟨rb, ro, none⟩) ls.length cap) ls u) (hl : ls[i]? = some l) (q : Int) :
    La (w.setCell ⟨rb, ro + i * 4 + 1, none⟩ (.int .i64 q)) g side most (.slice (some ⟨rb, ro, none⟩) ls.length cap) (ls.set i ⟨l.price, q, l.orders, l.queue⟩) u := by
  have h1 := (L.row.lt rb rfl).1
  refine ⟨L.hd.upd (show g ≠ rb by omega) (Upd.setCell w ⟨rb, ro + i * 4 + 1, none⟩ _), ?_, by rw [List.length_set]; exact L.len, ?_⟩
  · have h2 := own_set (j := i * 4 + 1) L.row (.int .i64 q)
    rw [flatL_upd1 ls i l q hl] at h2
    rw [List.length_set]
    simpa only [Nat.add_assoc] using h2
  · intro y hy
    rcases List.mem_or_eq_of_mem_set hy with h | rfl
    · exact L.rng y h
    · exact L.rng l (List.mem_of_getElem? hl)
theorem take_part (L : La w g side most v ls u) (hup : Up side ls) (p q : Int) (hp : I64 p) {i : Nat} (hi : i < ls.length) (hst : Stands (keys side ls) ls.length (keyF side p) i) (hf : keys side ls i = keyF side p)
    {l : Lvl} (hl : ls[i]? = some l) (hq : 0 ≤ q ∧ q ≤ l.qty) (hlq : l.qty ≤ 9223372036854775807) (ho : 1 ≤ l.orders ∧ l.orders ≤ 1000000000) :
    Calls Try.prog 119 #[.pointer (some ⟨g, 0, none⟩), .int .i64 p, .int .i64 q, .bool false] w fun e w' => e = .returned (.tuple #[.int .i64 l.queue, .int .i64 0]) ∧ La w' g side most v (ls.set i ⟨l.price, l.qty - q, l.orders, l.queue⟩) u ∧ LStep g v v w w' := by
  have hPl := Lib.hid (place_any L hup p hp hst)
  rw [decide_eq_true ⟨hi, hf⟩] at hPl
  have hvl := L.own_lt
  obtain ⟨A, cap, rfl, hrd, _⟩ := L.rd
  have h1 : ¬ q < 0 := by omega
  have h2 : ¬ l.qty < q := by omega
  have h3 : ¬ l.orders = 0 := by omega
  obtain ⟨rb, ro, rfl, _, _⟩ := rd_lvl hrd hi
  have HF : Hid (∀ w1, Below w.heap.size w w1 → _) := Lib.hid (fun w1 hb1 => lvl_facts (w1 := w1) L hl hb1)
  have hL := Lib.hid L
  have hl' := Lib.hid hl
  have e1 : (i : Int) < (ls.length : Int) := by omega
  have e2 : (0 : Int) ≤ (i : Int) := by omega
  obtain ⟨hq1, hq2⟩ := hq
  obtain ⟨ho1, ho2⟩ := ho
  clear L hst hf hup hrd hl
  go_enter Try.func119, Try.ntmps119
  go_wp2_with (first | (go_at_call 109; refine hPl.out.mono ?_; rintro e w1 ⟨rfl, hb1⟩; obtain ⟨c2, o1, o2, o3, f1⟩ := HF.out w1 hb1) | fail)
  go_ret2
  exact ⟨rfl, (hL.out.ext hb1).upd1 hl'.out _, (LStep.of_below hb1).trans (LStep.of_own rfl rfl) (fun b hb => (hvl b hb).2)⟩
end
end Lad
namespace Bk
set_option maxHeartbeats 1000000
set_option maxRecDepth 10000
open Are (St Ar ord0 ordArr_one dropS setS)
open Lad (La LStep Fresh keyF keys keys_at stands_ex busy clrU)
open Fif (Fq up up_same up_ne)
open Idx (R3 Xq Wf dropR)
theorem sid_mid (n : Nat) (A C : List Sl) (k : Nat) (o : Ord) : sid n (A ++ (k, o) :: C) = if o.side = (n : Int) then sid n A ++ (k, o) :: sid n C else sid n (A ++ C) := by
  unfold sid
  rw [List.filter_append, List.filter_append]
  by_cases h : o.side = (n : Int) <;> simp [h]
theorem rr_drop {A C : List Sl} {k : Nat} {o : Ord} (h : ((A ++ (k, o) :: C).map (·.2.id)).Nodup) : dropR (Rr (A ++ (k, o) :: C)) 0 o.id = Rr (A ++ C) := by
  rw [List.map_append, List.map_cons, List.nodup_append, List.nodup_cons] at h
  obtain ⟨_, ⟨h2, _⟩, h4⟩ := h
  have keep : ∀ l : List Sl, (∀ x ∈ l, x.2.id ≠ o.id) → dropR (Rr l) 0 o.id = Rr l := fun l hl => by
    unfold dropR Rr
    rw [List.filter_eq_self]
    intro r hr
    obtain ⟨x, hx, rfl⟩ := List.mem_map.1 hr
    simp [R3.is, hl x hx]
  have hA := keep A (fun x hx e => h4 _ (List.mem_map.2 ⟨x, hx, rfl⟩) _ (by simp) e)
  have hC := keep C (fun x hx e => h2 (List.mem_map.2 ⟨x, hx, e⟩))
  have e1 : Rr (A ++ (k, o) :: C) = Rr A ++ ⟨0, o.id, (k : Int)⟩ :: Rr C := by simp [Rr]
  have e2 : Rr (A ++ C) = Rr A ++ Rr C := by simp [Rr]
  rw [e1, e2]
  unfold dropR at *
  rw [List.filter_append, hA, List.filter_cons_of_neg (by simp [R3.is]), hC]
theorem rem_plan {N most : Nat} {A C : List Sl} {kk : Nat} {o : Ord} {d : Bd} (I : Bi N most (A ++ (kk, o) :: C) d) {n : Nat} (hn : n < 2) (hsd : o.side = (n : Int)) :
    ∃ (st : St) (fl : List Nat) (ls : List Lvl) (u : Nat → Nat) (l : Nat → List Nat),
      (∀ (W : World) (c : Nat → Nat) (b k : Nat) (R : List R3), Bw W c b N most k d R → Calls Try.prog 118 #[.pointer (some ⟨d.q n, 0, none⟩), .int .i64 kk] W fun e w' => ∃ x : Int, e = .returned (.tuple #[.int .i64 x, .bool true]) ∧ Bw w' c b N most k (d.qu n l) R ∧ Cs c c W w') ∧
      (∀ (W : World) (c : Nat → Nat) (b k : Nat) (R : List R3), Bw W c b N most k (d.qu n l) R → Calls Try.prog 119 #[.pointer (some ⟨d.l n, 0, none⟩), .int .i64 o.price, .int .i64 o.qty, .bool true] W fun e w' => ∃ x : Int, e = .returned (.tuple #[.int .i64 x, .int .i64 0]) ∧ ∃ v c', Bw w' c' b N most k ((d.qu n l).pt n v ls u) R ∧ Cs c c' W w') ∧
      (∀ (W : World) (c : Nat → Nat) (b k : Nat) (R : List R3) (v : Value), Bw W c b N most k ((d.qu n l).pt n v ls u) R → Calls Try.prog 120 #[.pointer (some ⟨d.a, 0, none⟩), .int .i64 kk] W fun e w' => e = .returned (.bool true) ∧ Bw w' c b N most k (((d.qu n l).pt n v ls u).tk st fl) R ∧ Cs c c W w') ∧
      (∀ (W : World) (c : Nat → Nat) (b k : Nat) (v : Value), k < 1000 → Bw W c b N most k (((d.qu n l).pt n v ls u).tk st fl) (Rr (A ++ (kk, o) :: C)) → Calls Try.prog 121 #[.pointer (some ⟨d.x, 0, none⟩), .agg #[.int .i64 0, .int .i64 o.id]] W fun e w' => e = .returned (.bool true) ∧ Bw w' c b N most (k + 1) (((d.qu n l).pt n v ls u).tk st fl) (Rr (A ++ C)) ∧ Cs c c W w') ∧
      (∀ v, Bi N most (A ++ C) (((d.qu n l).pt n v ls u).tk st fl)) := by
  have hlim := I.lim
  have S := I.si n hn
  have hmem : ((kk, o) : Sl) ∈ A ++ (kk, o) :: C := by simp
  have ho : okO o := I.ok _ hmem
  have hlen := ai_len I.ai
  have ht := I.ai.tk _ hmem
  have hsz := I.ai.size
  have hus := I.ai.used
  have hpos : 1 ≤ (A ++ (kk, o) :: C).length := by rw [List.length_append, List.length_cons]; omega
  rw [sid_mid, if_pos hsd] at S
  obtain ⟨i, lv, hl, hpr⟩ := si_level S
  obtain ⟨hi, hge⟩ := List.getElem?_eq_some_iff.1 hl
  have hm : lv ∈ d.ls n := List.mem_of_getElem? hl
  have V := S.lv lv hm
  have hrng := V.rng
  have hV := V.q0
  have hqn : ((lv.queue.toNat : Nat) : Int) = lv.queue := by omega
  have hL := si_queue S hm hpr
  have hS0 := I.si n hn
  obtain ⟨hq1, hq2⟩ := lv_bound hS0 I.ok (by omega) hm
  have hqo : o.qty ≤ lv.qty := by
    have h1 := V.qty
    rw [hpr, atp_mid rfl, sumq_app] at h1
    have h2 := sumq_nonneg (atp o.price (sid n A)) (fun x hx => by
      have := (I.ok x (by have := (List.mem_filter.1 (List.mem_filter.1 hx).1).1; simp [this])).2.2.1; omega)
    have h3 := sumq_nonneg (atp o.price (sid n C)) (fun x hx => by
      have := (I.ok x (by have := (List.mem_filter.1 (List.mem_filter.1 hx).1).1; simp [this])).2.2.1; omega)
    simp only [sumq] at h1
    omega
  obtain ⟨L', hL'⟩ : ∃ L' : Nat → List Nat, L' = up (d.L n) lv.queue.toNat ((atp lv.price (sid n A)).map (·.1) ++ (atp lv.price (sid n C)).map (·.1)) := ⟨_, rfl⟩
  have hQ : ∀ (W : World) (c : Nat → Nat) (b k : Nat) (R : List R3), Bw W c b N most k d R → Calls Try.prog 118 #[.pointer (some ⟨d.q n, 0, none⟩), .int .i64 kk] W fun e w' => ∃ x : Int, e = .returned (.tuple #[.int .i64 x, .bool true]) ∧ Bw w' c b N most k (d.qu n L') R ∧ Cs c c W w' := fun W c b k R BW => by
    refine (Fif.q_remove_yes (BW.fq n hn) lv.queue.toNat kk _ _ (by omega) hL).mono ?_
    rintro e w' ⟨rfl, hF, hB⟩
    rw [← hL'] at hF
    obtain ⟨h1, h2⟩ := BW.stepQ hn hB hF
    exact ⟨_, rfl, h1, h2⟩
  have hA : ∀ (D : Bd) (W : World) (c : Nat → Nat) (b k : Nat) (R : List R3), D.st = d.st → Bw W c b N most k D R → Calls Try.prog 120 #[.pointer (some ⟨D.a, 0, none⟩), .int .i64 kk] W fun e w' => e = .returned (.bool true) ∧ Bw w' c b N most k (D.tk (dropS d.st kk) (kk :: d.fl)) R ∧ Cs c c W w' := fun D W c b k R hD BW => by
    have hAr := BW.ar
    rw [hD] at hAr
    refine (Are.drop_yes D.a d.st kk W hAr (by omega) (by have := ht.1; omega) ht.2.1 (by omega)).mono ?_
    rintro e w' ⟨rfl, hA, hB⟩
    obtain ⟨h1, h2⟩ := BW.stepA hB hA (fl' := kk :: d.fl)
    exact ⟨rfl, h1, h2⟩
  have hX : ∀ (D : Bd) (W : World) (c : Nat → Nat) (b k : Nat), k < 1000 → Bw W c b N most k D (Rr (A ++ (kk, o) :: C)) → Calls Try.prog 121 #[.pointer (some ⟨D.x, 0, none⟩), .agg #[.int .i64 0, .int .i64 o.id]] W fun e w' => e = .returned (.bool true) ∧ Bw w' c b N most (k + 1) D (Rr (A ++ C)) ∧ Cs c c W w' := fun D W c b k hk BW => by
    refine (Idx.drop_yes BW.ix (s := 0) (i := o.id) wf0 ho.2.2.2 (by have := look_yes I.ids hmem; rw [this]; rfl) hk).mono ?_
    rintro e w' ⟨rfl, hX, hB⟩
    rw [rr_drop I.ids] at hX
    obtain ⟨h1, h2⟩ := BW.stepX hB hX
    exact ⟨rfl, h1, h2⟩
  have hBi : ∀ (v : Value) (ls : List Lvl) (u : Nat → Nat), SI (n : Int) most (sid n A ++ sid n C) ls u L' → Bi N most (A ++ C) (((d.qu n L').pt n v ls u).tk (dropS d.st kk) (kk :: d.fl)) := fun v ls u hS =>
    ⟨ai_drop I.ai, fun m hm => by
      show SI (m : Int) most (sid m (A ++ C)) (up d.ls n ls m) (up d.u n u m) (up d.L n L' m)
      by_cases e : m = n
      · subst e
        rw [up_same, up_same, up_same]
        have : sid m (A ++ C) = sid m A ++ sid m C := List.filter_append ..
        rw [this]
        exact hS
      · rw [up_ne _ _ e, up_ne _ _ e, up_ne _ _ e]
        have := I.si m hm
        rwa [sid_mid, if_neg (by rw [hsd]; omega)] at this,
      fun x hx => I.ok x (by rcases List.mem_append.1 hx with h | h <;> simp [h]), by
        have h := I.ids
        rw [List.map_append, List.map_cons] at h
        rw [List.map_append]
        exact h.sublist (List.Sublist.append_left (List.sublist_cons_self _ _) _), hlim⟩
  have hp : I64 o.price := ⟨by have := ho.2.1; omega, by have := ho.2.1; omega⟩
  have hkeq : keys (n : Int) (d.ls n) i = keyF (n : Int) o.price := by rw [keys_at hi, hge, hpr]
  have hst : Lad.Stands (keys (n : Int) (d.ls n)) (d.ls n).length (keyF (n : Int) o.price) i :=
    ⟨Nat.le_of_lt hi, fun j hj => by rw [← hkeq]; exact S.up j i hj hi, fun j hj hj2 => by
      rcases Nat.lt_or_ge i j with h | h
      · have := S.up i j h hj2
        omega
      · have : j = i := by omega
        subst this
        omega⟩
  have ho1 := ho.2.2.1
  by_cases h1 : lv.orders = 1
  · refine ⟨_, _, _, _, L', hQ, fun W c b k R BW => ?_, fun W c b k R v BW => hA _ W c b k R rfl BW, fun W c b k v hk BW => hX _ W c b k hk BW, fun v => hBi v _ _ (by rw [hL']; exact si_last S (by omega) hl hpr h1)⟩
    have hsp : lv.queue = (((lv.queue.toNat / 64) * 64 + lv.queue.toNat % 64 : Nat) : Int) := by omega
    have hsp2 : (lv.queue.toNat / 64) * 64 + lv.queue.toNat % 64 = lv.queue.toNat := by omega
    refine (Lad.take_last (BW.la n hn) S.up o.price o.qty hp hi hst hkeq hl ⟨by omega, hqo⟩ (by omega) h1 S.ul (lv.queue.toNat / 64) (lv.queue.toNat % 64) (by omega) (by omega) hsp).mono ?_
    rintro e w' ⟨rfl, v', hLa, hS⟩
    rw [hsp2] at hLa
    obtain ⟨c', k1, k2⟩ := BW.stepL hn hS hLa
    exact ⟨_, rfl, _, c', k1, k2⟩
  · have h2 : 2 ≤ lv.orders := by omega
    refine ⟨_, _, _, _, L', hQ, fun W c b k R BW => ?_, fun W c b k R v BW => hA _ W c b k R rfl BW, fun W c b k v hk BW => hX _ W c b k hk BW, fun v => hBi v _ _ (by rw [hL']; exact si_less S hl hpr h2)⟩
    refine (Lad.take_less (BW.la n hn) S.up o.price o.qty hp hi hst hkeq hl ⟨by omega, hqo⟩ (by omega) ⟨h2, by omega⟩).mono ?_
    rintro e w' ⟨rfl, hLa, hS⟩
    obtain ⟨c', k1, k2⟩ := BW.stepL hn hS hLa
    exact ⟨_, rfl, _, c', k1, k2⟩
/-- An order of which something is taken. -/
def less (o : Ord) (z : Int) : Ord := { o with qty := o.qty - z }
theorem rr_less (A C : List Sl) (k : Nat) (o : Ord) (z : Int) : Rr (A ++ (k, less o z) :: C) = Rr (A ++ (k, o) :: C) := by simp [Rr, less]
theorem red_plan {N most : Nat} {A C : List Sl} {kk : Nat} {o : Ord} {d : Bd} (I : Bi N most (A ++ (kk, o) :: C) d) {n : Nat} (hn : n < 2) (hsd : o.side = (n : Int)) {z : Int} (hz : 1 ≤ z ∧ z < o.qty) :
    ∃ (st : St) (ls : List Lvl),
      (∀ (W : World) (c : Nat → Nat) (b k : Nat) (R : List R3), Bw W c b N most k d R → Calls Try.prog 119 #[.pointer (some ⟨d.l n, 0, none⟩), .int .i64 o.price, .int .i64 z, .bool false] W fun e w' => ∃ x : Int, e = .returned (.tuple #[.int .i64 x, .int .i64 0]) ∧ ∃ v c', Bw w' c' b N most k (d.pt n v ls (d.u n)) R ∧ Cs c c' W w') ∧
      (∀ (W : World) (c : Nat → Nat) (b k : Nat) (R : List R3) (v : Value), Bw W c b N most k (d.pt n v ls (d.u n)) R → Calls Try.prog 122 #[.pointer (some ⟨d.a, 0, none⟩), .int .i64 kk, .agg (less o z).arr] W fun e w' => e = .returned (.bool true) ∧ Bw w' c b N most k ((d.pt n v ls (d.u n)).tk st d.fl) R ∧ Cs c c W w') ∧
      (∀ v, Bi N most (A ++ (kk, less o z) :: C) ((d.pt n v ls (d.u n)).tk st d.fl)) := by
  have hlim := I.lim
  have S := I.si n hn
  have hmem : ((kk, o) : Sl) ∈ A ++ (kk, o) :: C := by simp
  have ho : okO o := I.ok _ hmem
  have hlen := ai_len I.ai
  have ht := I.ai.tk _ hmem
  have hsz := I.ai.size
  rw [sid_mid, if_pos hsd] at S
  obtain ⟨i, lv, hl, hpr⟩ := si_level S
  obtain ⟨hi, hge⟩ := List.getElem?_eq_some_iff.1 hl
  have hm : lv ∈ d.ls n := List.mem_of_getElem? hl
  have V := S.lv lv hm
  have hS0 := I.si n hn
  obtain ⟨hq1, hq2⟩ := lv_bound hS0 I.ok (by omega) hm
  have hqo : o.qty ≤ lv.qty := by
    have h1 := V.qty
    rw [hpr, atp_mid rfl, sumq_app] at h1
    have h2 := sumq_nonneg (atp o.price (sid n A)) (fun x hx => by
      have := (I.ok x (by have := (List.mem_filter.1 (List.mem_filter.1 hx).1).1; simp [this])).2.2.1; omega)
    have h3 := sumq_nonneg (atp o.price (sid n C)) (fun x hx => by
      have := (I.ok x (by have := (List.mem_filter.1 (List.mem_filter.1 hx).1).1; simp [this])).2.2.1; omega)
    simp only [sumq] at h1
    omega
  have hp : I64 o.price := ⟨by have := ho.2.1; omega, by have := ho.2.1; omega⟩
  have hkeq : keys (n : Int) (d.ls n) i = keyF (n : Int) o.price := by rw [keys_at hi, hge, hpr]
  have hst : Lad.Stands (keys (n : Int) (d.ls n)) (d.ls n).length (keyF (n : Int) o.price) i :=
    ⟨Nat.le_of_lt hi, fun j hj => by rw [← hkeq]; exact S.up j i hj hi, fun j hj hj2 => by
      rcases Nat.lt_or_ge i j with h | h
      · have := S.up i j h hj2
        omega
      · have : j = i := by omega
        subst this
        omega⟩
  refine ⟨setS d.st kk (less o z), (d.ls n).set i ⟨lv.price, lv.qty - z, lv.orders, lv.queue⟩, fun W c b k R BW => ?_, fun W c b k R v BW => ?_, fun v => ⟨ai_set I.ai _, fun m hm => ?_, fun x hx => ?_, ?_, hlim⟩⟩
  · refine (Lad.take_part (BW.la n hn) S.up o.price z hp hi hst hkeq hl ⟨by omega, by omega⟩ (by omega) (by omega)).mono ?_
    rintro e w' ⟨rfl, hLa, hS⟩
    obtain ⟨c', k1, k2⟩ := BW.stepL hn hS hLa
    exact ⟨_, rfl, _, c', k1, k2⟩
  · refine (Are.set_yes d.a d.st kk (less o z) W BW.ar (by omega) (by have := ht.1; omega) ht.2.1).mono ?_
    rintro e w' ⟨rfl, hA, hB⟩
    obtain ⟨h1, h2⟩ := BW.stepA hB hA (fl' := d.fl)
    exact ⟨rfl, h1, h2⟩
  · show SI (m : Int) most (sid m (A ++ (kk, less o z) :: C)) (up d.ls n _ m) (up d.u n (d.u n) m) (d.L m)
    by_cases e : m = n
    · subst e
      rw [up_same, up_same, sid_mid, if_pos (show (less o z).side = (m : Int) from hsd)]
      exact si_part S hl hpr z
    · have := I.si m hm
      rw [sid_mid, if_neg (by rw [hsd]; omega)] at this
      rw [up_ne _ _ e, up_ne _ _ e, sid_mid, if_neg (show ¬ (less o z).side = (m : Int) from by show ¬ o.side = (m : Int); rw [hsd]; omega)]
      exact this
  · rcases List.mem_append.1 hx with h | h
    · exact I.ok x (by simp [h])
    · rcases List.mem_cons.1 h with rfl | h
      · exact ⟨ho.1, ho.2.1, ⟨by show 1 ≤ o.qty - z; omega, by show o.qty - z ≤ _; have := ho.2.2.1; omega⟩, ho.2.2.2⟩
      · exact I.ok x (by simp [h])
  · have h := I.ids
    rw [List.map_append, List.map_cons] at h ⊢
    exact h
theorem Cs.upd {c c' : Nat → Nat} {w w1 w2 : World} {g : Nat} (h : Cs c c' w w1) (hg : w.heap.size ≤ g) (u : Upd g w1 w2) : Cs c c' w w2 :=
  ⟨u.os.trans h.os, u.tape.trans h.tape, u.output.trans h.output, by rw [u.size]; exact h.size, h.old, fun q hq h9 => (u.block q (by omega)).trans (h.same q hq h9)⟩
/-- What leaves a book's blocks leaves the book. -/
theorem Bw.only9 {w w' : World} {c : Nat → Nat} {b N most k : Nat} {d : Bd} {R : List R3} (B : Bw w c b N most k d R) (O : Only c 9 w w') : Bw w' c b N most k d R := by
  have hl : ∀ n, n < 2 → d.l n < w.heap.size := fun n hn => (B.la n hn).hd.lt
  have hq : ∀ n, n < 2 → _ := fun n hn => (B.fq n hn).lt
  obtain ⟨x1, x2, x3⟩ := B.ix.lt
  exact ⟨(O.same b B.lt (by rw [B.cb]; decide)).trans B.hd, ar_keep B.ar (O.same _ B.ar.lt (by rw [B.ca]; decide)), fun n hn => la_keep (B.la n hn) (O.same _ (hl n hn) (by rw [B.cl n hn]; omega)) (fun r hr => O.same r ((B.la n hn).own_lt r hr).2 (by rw [B.cv n hn r hr]; omega)),
    fun n hn => fq_keep (B.fq n hn) (O.same _ (hq n hn).1 (by rw [(B.cq n hn).1]; omega)) (O.same _ (hq n hn).2.1 (by rw [(B.cq n hn).2.1]; omega)) (O.same _ (hq n hn).2.2 (by rw [(B.cq n hn).2.2]; omega)),
    xq_keep B.ix (O.same _ x1 (by rw [B.cx.1]; decide)) (O.same _ x2 (by rw [B.cx.2.1]; decide)) (O.same _ x3 (by rw [B.cx.2.2]; decide)), B.cb, B.ca, B.cl, B.cq, B.cx, B.cv, fun r hr => B.out r (Nat.le_trans O.size hr)⟩
theorem Bs.only9 {w w' : World} {c : Nat → Nat} {b N most k : Nat} {ss : List Sl} (B : Bs w c b N most k ss) (O : Only c 9 w w') : Bs w' c b N most k ss := by
  obtain ⟨d, B, I⟩ := B
  exact ⟨d, B.only9 O, I⟩
theorem Only.upd9 {c : Nat → Nat} {w w' : World} {g : Nat} (u : Upd g w w') (hg : c g = 9) : Only c 9 w w' := ⟨u.os, u.tape, u.output, Nat.le_of_eq u.size.symm, fun q _ hn => u.block q (fun e => hn (by rw [e]; exact hg))⟩
end Bk
end Go.Proofs.Ytgaialcbpglhaaa
