/- This text proves what the steps of removing and reducing an order do to a held book. It has no conditions but those that it states. This text proves the contracts of a book's gone and Remove. It has no conditions but those that it states. This text proves the contract of a book's Reduce. It has no conditions but those that it states. This text proves that damperlaw13's alive is true, and which price is better. It has no conditions but those that it states. -/
import Derived.Test.YtbnappiaomiciaaGreatBkAdd
import Derived.Test.YtbnappiaomiciaaGreatLadT
namespace Go.Proofs.YtbnappiaomiciaaGreat
set_option linter.unusedVariables false
open Go.RowKit
namespace Lad
set_option maxHeartbeats 2000000
set_option maxRecDepth 10000
theorem flatL_upd1 : ∀ (ls : List Lvl) (i : Nat) (l : Lvl) (q : Int), ls[i]? = some l → (flatL ls).set (i * 4 + 1) (.int .i64 q) = flatL (ls.set i ⟨l.price, q, l.orders, l.queue⟩)
  | [], _, _, _, h => by simp at h
  | x :: t, 0, l, q, h => by
    obtain rfl : x = l := by simpa using h
    simp [flatL, Lvl.cells]
  | x :: t, i + 1, l, q, h => by
    have ih := flatL_upd1 t i l q (by simpa using h)
    have e : ∀ y : Lvl, flatL (y :: t) = .int .i64 y.price :: .int .i64 y.qty :: .int .i64 y.orders :: .int .i64 y.queue :: flatL t := fun _ => rfl
    have e2 : flatL (x :: t.set i ⟨l.price, q, l.orders, l.queue⟩) = .int .i64 x.price :: .int .i64 x.qty :: .int .i64 x.orders :: .int .i64 x.queue :: flatL (t.set i ⟨l.price, q, l.orders, l.queue⟩) := rfl
    rw [e, show (i + 1) * 4 + 1 = (i * 4 + 1) + 1 + 1 + 1 + 1 by omega, List.set_cons_succ, List.set_cons_succ, List.set_cons_succ, List.set_cons_succ, ih, List.set_cons_succ, e2]
section
variable {w : World} {g : Nat} {side most : Int} {v : Value} {ls : List Lvl} {u : Nat → Nat}
theorem La.upd1 {rb ro cap i : Nat} {l : Lvl} (L : La w g side most (.slice (some ⟨rb, ro, none⟩) ls.length cap) ls u) (hl : ls[i]? = some l) (q : Int) :
    La (w.setCell ⟨rb, ro + i * 4 + 1, none⟩ (.int .i64 q)) g side most (.slice (some ⟨rb, ro, none⟩) ls.length cap) (ls.set i ⟨l.price, q, l.orders, l.queue⟩) u := by
  have h1 := (L.row.lt rb rfl).1
  refine ⟨L.hd.upd (show g ≠ rb by omega) (Upd.setCell w ⟨rb, ro + i * 4 + 1, none⟩ _), ?_, by rw [List.length_set]; exact L.len, ?_⟩
  · have h2 := own_set (j := i * 4 + 1) L.row (.int .i64 q)
    rw [flatL_upd1 ls i l q hl] at h2
    rw [List.length_set]
    simpa only [Nat.add_assoc] using h2
  · intro y hy
    rcases List.mem_or_eq_of_mem_set hy with h | rfl
    · exact L.rng y h
    · exact L.rng l (List.mem_of_getElem? hl)
theorem take_part (L : La w g side most v ls u) (hup : Up side ls) (p q : Int) (hp : I64 p) {i : Nat} (hi : i < ls.length) (hst : Stands (keys side ls) ls.length (keyF side p) i) (hf : keys side ls i = keyF side p)
    {l : Lvl} (hl : ls[i]? = some l) (hq : 0 ≤ q ∧ q ≤ l.qty) (hlq : l.qty ≤ 9223372036854775807) (ho : 1 ≤ l.orders ∧ l.orders ≤ 1000000000) :
    Calls Tryz.prog 87 #[.pointer (some ⟨g, 0, none⟩), .int .i64 p, .int .i64 q, .bool false] w fun e w' => e = .returned (.tuple #[.int .i64 l.queue, .int .i64 0]) ∧ La w' g side most v (ls.set i ⟨l.price, l.qty - q, l.orders, l.queue⟩) u ∧ LStep g v v w w' := by
  have hPl := Lib.hid (place_any L hup p hp hst)
  rw [decide_eq_true ⟨hi, hf⟩] at hPl
  have hvl := L.own_lt
  obtain ⟨A, cap, rfl, hrd, _⟩ := L.rd
  have h1 : ¬ q < 0 := by omega
  have h2 : ¬ l.qty < q := by omega
  have h3 : ¬ l.orders = 0 := by omega
  obtain ⟨rb, ro, rfl, _, _⟩ := rd_lvl hrd hi
  have HF : Hid (∀ w1, Below w.heap.size w w1 → _) := Lib.hid (fun w1 hb1 => lvl_facts (w1 := w1) L hl hb1)
  have hL := Lib.hid L
  have hl' := Lib.hid hl
  have e1 : (i : Int) < (ls.length : Int) := by omega
  have e2 : (0 : Int) ≤ (i : Int) := by omega
  obtain ⟨hq1, hq2⟩ := hq
  obtain ⟨ho1, ho2⟩ := ho
  clear L hst hf hup hrd hl
  go_enter Tryz.func87, Tryz.ntmps87
  go_wp2_with (first | (go_at_call 89; refine hPl.out.mono ?_; rintro e w1 ⟨rfl, hb1⟩; obtain ⟨c2, o1, o2, o3, f1⟩ := HF.out w1 hb1) | fail)
  go_ret2
  exact ⟨rfl, (hL.out.ext hb1).upd1 hl'.out _, (LStep.of_below hb1).trans (LStep.of_own rfl rfl) (fun b hb => (hvl b hb).2)⟩
end
end Lad
namespace Bk
set_option maxHeartbeats 1000000
set_option maxRecDepth 10000
open Are (St Ar ord0 ordArr_one dropS setS)
open Lad (La LStep Fresh keyF keys keys_at stands_ex busy clrU)
open Fif (Fq up up_same up_ne)
open Idx (R3 Xq Wf dropR)
theorem sid_mid (n : Nat) (A C : List Sl) (k : Nat) (o : Ord) : sid n (A ++ (k, o) :: C) = if o.side = (n : Int) then sid n A ++ (k, o) :: sid n C else sid n (A ++ C) := by
  unfold sid
  rw [List.filter_append, List.filter_append]
  by_cases h : o.side = (n : Int) <;> simp [h]
theorem rr_drop {A C : List Sl} {k : Nat} {o : Ord} (h : ((A ++ (k, o) :: C).map (·.2.id)).Nodup) : dropR (Rr (A ++ (k, o) :: C)) 0 o.id = Rr (A ++ C) := by
  rw [List.map_append, List.map_cons, List.nodup_append, List.nodup_cons] at h
  obtain ⟨_, ⟨h2, _⟩, h4⟩ := h
  have keep : ∀ l : List Sl, (∀ x ∈ l, x.2.id ≠ o.id) → dropR (Rr l) 0 o.id = Rr l := fun l hl => by
    unfold dropR Rr
    rw [List.filter_eq_self]
    intro r hr
    obtain ⟨x, hx, rfl⟩ := List.mem_map.1 hr
    simp [R3.is, hl x hx]
  have hA := keep A (fun x hx e => h4 _ (List.mem_map.2 ⟨x, hx, rfl⟩) _ (by simp) e)
  have hC := keep C (fun x hx e => h2 (List.mem_map.2 ⟨x, hx, e⟩))
  have e1 : Rr (A ++ (k, o) :: C) = Rr A ++ ⟨0, o.id, (k : Int)⟩ :: Rr C := by simp [Rr]
  have e2 : Rr (A ++ C) = Rr A ++ Rr C := by simp [Rr]
  rw [e1, e2]
  unfold dropR at *
  rw [List.filter_append, hA, List.filter_cons_of_neg (by simp [R3.is]), hC]
theorem rem_plan {N most : Nat} {A C : List Sl} {kk : Nat} {o : Ord} {d : Bd} (I : Bi N most (A ++ (kk, o) :: C) d) {n : Nat} (hn : n < 2) (hsd : o.side = (n : Int)) :
    ∃ (st : St) (fl : List Nat) (ls : List Lvl) (u : Nat → Nat) (l : Nat → List Nat),
      (∀ (W : World) (c : Nat → Nat) (b k : Nat) (R : List R3), Bw W c b N most k d R → Calls Tryz.prog 104 #[.pointer (some ⟨d.q n, 0, none⟩), .int .i64 kk] W fun e w' => ∃ x : Int, e = .returned (.tuple #[.int .i64 x, .bool true]) ∧ Bw w' c b N most k (d.qu n l) R ∧ Cs c c W w') ∧
      (∀ (W : World) (c : Nat → Nat) (b k : Nat) (R : List R3), Bw W c b N most k (d.qu n l) R → Calls Tryz.prog 87 #[.pointer (some ⟨d.l n, 0, none⟩), .int .i64 o.price, .int .i64 o.qty, .bool true] W fun e w' => ∃ x : Int, e = .returned (.tuple #[.int .i64 x, .int .i64 0]) ∧ ∃ v c', Bw w' c' b N most k ((d.qu n l).pt n v ls u) R ∧ Cs c c' W w') ∧
      (∀ (W : World) (c : Nat → Nat) (b k : Nat) (R : List R3) (v : Value), Bw W c b N most k ((d.qu n l).pt n v ls u) R → Calls Tryz.prog 105 #[.pointer (some ⟨d.a, 0, none⟩), .int .i64 kk] W fun e w' => e = .returned (.bool true) ∧ Bw w' c b N most k (((d.qu n l).pt n v ls u).tk st fl) R ∧ Cs c c W w') ∧
      (∀ (W : World) (c : Nat → Nat) (b k : Nat) (v : Value), k < 1000 → Bw W c b N most k (((d.qu n l).pt n v ls u).tk st fl) (Rr (A ++ (kk, o) :: C)) → Calls Tryz.prog 106 #[.pointer (some ⟨d.x, 0, none⟩), .agg #[.int .i64 0, .int .i64 o.id]] W fun e w' => e = .returned (.bool true) ∧ Bw w' c b N most (k + 1) (((d.qu n l).pt n v ls u).tk st fl) (Rr (A ++ C)) ∧ Cs c c W w') ∧
      (∀ v, Bi N most (A ++ C) (((d.qu n l).pt n v ls u).tk st fl)) := by
  have hlim := I.lim
  have S := I.si n hn
  have hmem : ((kk, o) : Sl) ∈ A ++ (kk, o) :: C := by simp
  have ho : okO o := I.ok _ hmem
  have hlen := ai_len I.ai
  have ht := I.ai.tk _ hmem
  have hsz := I.ai.size
  have hus := I.ai.used
  have hpos : 1 ≤ (A ++ (kk, o) :: C).length := by rw [List.length_append, List.length_cons]; omega
  rw [sid_mid, if_pos hsd] at S
  obtain ⟨i, lv, hl, hpr⟩ := si_level S
  obtain ⟨hi, hge⟩ := List.getElem?_eq_some_iff.1 hl
  have hm : lv ∈ d.ls n := List.mem_of_getElem? hl
  have V := S.lv lv hm
  have hrng := V.rng
  have hV := V.q0
  have hqn : ((lv.queue.toNat : Nat) : Int) = lv.queue := by omega
  have hL := si_queue S hm hpr
  have hS0 := I.si n hn
  obtain ⟨hq1, hq2⟩ := lv_bound hS0 I.ok (by omega) hm
  have hqo : o.qty ≤ lv.qty := by
    have h1 := V.qty
    rw [hpr, atp_mid rfl, sumq_app] at h1
    have h2 := sumq_nonneg (atp o.price (sid n A)) (fun x hx => by
      have := (I.ok x (by have := (List.mem_filter.1 (List.mem_filter.1 hx).1).1; simp [this])).2.2.1; omega)
    have h3 := sumq_nonneg (atp o.price (sid n C)) (fun x hx => by
      have := (I.ok x (by have := (List.mem_filter.1 (List.mem_filter.1 hx).1).1; simp [this])).2.2.1; omega)
    simp only [sumq] at h1
    omega
  obtain ⟨L', hL'⟩ : ∃ L' : Nat → List Nat, L' = up (d.L n) lv.queue.toNat ((atp lv.price (sid n A)).map (·.1) ++ (atp lv.price (sid n C)).map (·.1)) := ⟨_, rfl⟩
  have hQ : ∀ (W : World) (c : Nat → Nat) (b k : Nat) (R : List R3), Bw W c b N most k d R → Calls Tryz.prog 104 #[.pointer (some ⟨d.q n, 0, none⟩), .int .i64 kk] W fun e w' => ∃ x : Int, e = .returned (.tuple #[.int .i64 x, .bool true]) ∧ Bw w' c b N most k (d.qu n L') R ∧ Cs c c W w' := fun W c b k R BW => by
    refine (Fif.q_remove_yes (BW.fq n hn) lv.queue.toNat kk _ _ (by omega) hL).mono ?_
    rintro e w' ⟨rfl, hF, hB⟩
    rw [← hL'] at hF
    obtain ⟨h1, h2⟩ := BW.stepQ hn hB hF
    exact ⟨_, rfl, h1, h2⟩
  have hA : ∀ (D : Bd) (W : World) (c : Nat → Nat) (b k : Nat) (R : List R3), D.st = d.st → Bw W c b N most k D R → Calls Tryz.prog 105 #[.pointer (some ⟨D.a, 0, none⟩), .int .i64 kk] W fun e w' => e = .returned (.bool true) ∧ Bw w' c b N most k (D.tk (dropS d.st kk) (kk :: d.fl)) R ∧ Cs c c W w' := fun D W c b k R hD BW => by
    have hAr := BW.ar
    rw [hD] at hAr
    refine (Are.drop_yes D.a d.st kk W hAr (by omega) (by have := ht.1; omega) ht.2.1 (by omega)).mono ?_
    rintro e w' ⟨rfl, hA, hB⟩
    obtain ⟨h1, h2⟩ := BW.stepA hB hA (fl' := kk :: d.fl)
    exact ⟨rfl, h1, h2⟩
  have hX : ∀ (D : Bd) (W : World) (c : Nat → Nat) (b k : Nat), k < 1000 → Bw W c b N most k D (Rr (A ++ (kk, o) :: C)) → Calls Tryz.prog 106 #[.pointer (some ⟨D.x, 0, none⟩), .agg #[.int .i64 0, .int .i64 o.id]] W fun e w' => e = .returned (.bool true) ∧ Bw w' c b N most (k + 1) D (Rr (A ++ C)) ∧ Cs c c W w' := fun D W c b k hk BW => by
    refine (Idx.drop_yes BW.ix (s := 0) (i := o.id) wf0 ho.2.2.2 (by have := look_yes I.ids hmem; rw [this]; rfl) hk).mono ?_
    rintro e w' ⟨rfl, hX, hB⟩
    rw [rr_drop I.ids] at hX
    obtain ⟨h1, h2⟩ := BW.stepX hB hX
    exact ⟨rfl, h1, h2⟩
  have hBi : ∀ (v : Value) (ls : List Lvl) (u : Nat → Nat), SI (n : Int) most (sid n A ++ sid n C) ls u L' → Bi N most (A ++ C) (((d.qu n L').pt n v ls u).tk (dropS d.st kk) (kk :: d.fl)) := fun v ls u hS =>
    ⟨ai_drop I.ai, fun m hm => by
      show SI (m : Int) most (sid m (A ++ C)) (up d.ls n ls m) (up d.u n u m) (up d.L n L' m)
      by_cases e : m = n
      · subst e
        rw [up_same, up_same, up_same]
        have : sid m (A ++ C) = sid m A ++ sid m C := List.filter_append ..
        rw [this]
        exact hS
      · rw [up_ne _ _ e, up_ne _ _ e, up_ne _ _ e]
        have := I.si m hm
        rwa [sid_mid, if_neg (by rw [hsd]; omega)] at this,
      fun x hx => I.ok x (by rcases List.mem_append.1 hx with h | h <;> simp [h]), by
        have h := I.ids
        rw [List.map_append, List.map_cons] at h
        rw [List.map_append]
        exact h.sublist (List.Sublist.append_left (List.sublist_cons_self _ _) _), hlim⟩
  have hp : I64 o.price := ⟨by have := ho.2.1; omega, by have := ho.2.1; omega⟩
  have hkeq : keys (n : Int) (d.ls n) i = keyF (n : Int) o.price := by rw [keys_at hi, hge, hpr]
  have hst : Lad.Stands (keys (n : Int) (d.ls n)) (d.ls n).length (keyF (n : Int) o.price) i :=
    ⟨Nat.le_of_lt hi, fun j hj => by rw [← hkeq]; exact S.up j i hj hi, fun j hj hj2 => by
      rcases Nat.lt_or_ge i j with h | h
      · have := S.up i j h hj2
        omega
      · have : j = i := by omega
        subst this
        omega⟩
  have ho1 := ho.2.2.1
  by_cases h1 : lv.orders = 1
  · refine ⟨_, _, _, _, L', hQ, fun W c b k R BW => ?_, fun W c b k R v BW => hA _ W c b k R rfl BW, fun W c b k v hk BW => hX _ W c b k hk BW, fun v => hBi v _ _ (by rw [hL']; exact si_last S (by omega) hl hpr h1)⟩
    have hsp : lv.queue = (((lv.queue.toNat / 64) * 64 + lv.queue.toNat % 64 : Nat) : Int) := by omega
    have hsp2 : (lv.queue.toNat / 64) * 64 + lv.queue.toNat % 64 = lv.queue.toNat := by omega
    refine (Lad.take_last (BW.la n hn) S.up o.price o.qty hp hi hst hkeq hl ⟨by omega, hqo⟩ (by omega) h1 S.ul (lv.queue.toNat / 64) (lv.queue.toNat % 64) (by omega) (by omega) hsp).mono ?_
    rintro e w' ⟨rfl, v', hLa, hS⟩
    rw [hsp2] at hLa
    obtain ⟨c', k1, k2⟩ := BW.stepL hn hS hLa
    exact ⟨_, rfl, _, c', k1, k2⟩
  · have h2 : 2 ≤ lv.orders := by omega
    refine ⟨_, _, _, _, L', hQ, fun W c b k R BW => ?_, fun W c b k R v BW => hA _ W c b k R rfl BW, fun W c b k v hk BW => hX _ W c b k hk BW, fun v => hBi v _ _ (by rw [hL']; exact si_less S hl hpr h2)⟩
    refine (Lad.take_less (BW.la n hn) S.up o.price o.qty hp hi hst hkeq hl ⟨by omega, hqo⟩ (by omega) ⟨h2, by omega⟩).mono ?_
    rintro e w' ⟨rfl, hLa, hS⟩
    obtain ⟨c', k1, k2⟩ := BW.stepL hn hS hLa
    exact ⟨_, rfl, _, c', k1, k2⟩
/-- An order of which something is taken. -/
def less (o : Ord) (z : Int) : Ord := { o with qty := o.qty - z }
theorem rr_less (A C : List Sl) (k : Nat) (o : Ord) (z : Int) : Rr (A ++ (k, less o z) :: C) = Rr (A ++ (k, o) :: C) := by simp [Rr, less]
theorem red_plan {N most : Nat} {A C : List Sl} {kk : Nat} {o : Ord} {d : Bd} (I : Bi N most (A ++ (kk, o) :: C) d) {n : Nat} (hn : n < 2) (hsd : o.side = (n : Int)) {z : Int} (hz : 1 ≤ z ∧ z < o.qty) :
    ∃ (st : St) (ls : List Lvl),
      (∀ (W : World) (c : Nat → Nat) (b k : Nat) (R : List R3), Bw W c b N most k d R → Calls Tryz.prog 87 #[.pointer (some ⟨d.l n, 0, none⟩), .int .i64 o.price, .int .i64 z, .bool false] W fun e w' => ∃ x : Int, e = .returned (.tuple #[.int .i64 x, .int .i64 0]) ∧ ∃ v c', Bw w' c' b N most k (d.pt n v ls (d.u n)) R ∧ Cs c c' W w') ∧
      (∀ (W : World) (c : Nat → Nat) (b k : Nat) (R : List R3) (v : Value), Bw W c b N most k (d.pt n v ls (d.u n)) R → Calls Tryz.prog 88 #[.pointer (some ⟨d.a, 0, none⟩), .int .i64 kk, .agg (less o z).arr] W fun e w' => e = .returned (.bool true) ∧ Bw w' c b N most k ((d.pt n v ls (d.u n)).tk st d.fl) R ∧ Cs c c W w') ∧
      (∀ v, Bi N most (A ++ (kk, less o z) :: C) ((d.pt n v ls (d.u n)).tk st d.fl)) := by
  have hlim := I.lim
  have S := I.si n hn
  have hmem : ((kk, o) : Sl) ∈ A ++ (kk, o) :: C := by simp
  have ho : okO o := I.ok _ hmem
  have hlen := ai_len I.ai
  have ht := I.ai.tk _ hmem
  have hsz := I.ai.size
  rw [sid_mid, if_pos hsd] at S
  obtain ⟨i, lv, hl, hpr⟩ := si_level S
  obtain ⟨hi, hge⟩ := List.getElem?_eq_some_iff.1 hl
  have hm : lv ∈ d.ls n := List.mem_of_getElem? hl
  have V := S.lv lv hm
  have hS0 := I.si n hn
  obtain ⟨hq1, hq2⟩ := lv_bound hS0 I.ok (by omega) hm
  have hqo : o.qty ≤ lv.qty := by
    have h1 := V.qty
    rw [hpr, atp_mid rfl, sumq_app] at h1
    have h2 := sumq_nonneg (atp o.price (sid n A)) (fun x hx => by
      have := (I.ok x (by have := (List.mem_filter.1 (List.mem_filter.1 hx).1).1; simp [this])).2.2.1; omega)
    have h3 := sumq_nonneg (atp o.price (sid n C)) (fun x hx => by
      have := (I.ok x (by have := (List.mem_filter.1 (List.mem_filter.1 hx).1).1; simp [this])).2.2.1; omega)
    simp only [sumq] at h1
    omega
  have hp : I64 o.price := ⟨by have := ho.2.1; omega, by have := ho.2.1; omega⟩
  have hkeq : keys (n : Int) (d.ls n) i = keyF (n : Int) o.price := by rw [keys_at hi, hge, hpr]
  have hst : Lad.Stands (keys (n : Int) (d.ls n)) (d.ls n).length (keyF (n : Int) o.price) i :=
    ⟨Nat.le_of_lt hi, fun j hj => by rw [← hkeq]; exact S.up j i hj hi, fun j hj hj2 => by
      rcases Nat.lt_or_ge i j with h | h
      · have := S.up i j h hj2
        omega
      · have : j = i := by omega
        subst this
        omega⟩
  refine ⟨setS d.st kk (less o z), (d.ls n).set i ⟨lv.price, lv.qty - z, lv.orders, lv.queue⟩, fun W c b k R BW => ?_, fun W c b k R v BW => ?_, fun v => ⟨ai_set I.ai _, fun m hm => ?_, fun x hx => ?_, ?_, hlim⟩⟩
  · refine (Lad.take_part (BW.la n hn) S.up o.price z hp hi hst hkeq hl ⟨by omega, by omega⟩ (by omega) (by omega)).mono ?_
    rintro e w' ⟨rfl, hLa, hS⟩
    obtain ⟨c', k1, k2⟩ := BW.stepL hn hS hLa
    exact ⟨_, rfl, _, c', k1, k2⟩
  · refine (Are.set_yes d.a d.st kk (less o z) W BW.ar (by omega) (by have := ht.1; omega) ht.2.1).mono ?_
    rintro e w' ⟨rfl, hA, hB⟩
    obtain ⟨h1, h2⟩ := BW.stepA hB hA (fl' := d.fl)
    exact ⟨rfl, h1, h2⟩
  · show SI (m : Int) most (sid m (A ++ (kk, less o z) :: C)) (up d.ls n _ m) (up d.u n (d.u n) m) (d.L m)
    by_cases e : m = n
    · subst e
      rw [up_same, up_same, sid_mid, if_pos (show (less o z).side = (m : Int) from hsd)]
      exact si_part S hl hpr z
    · have := I.si m hm
      rw [sid_mid, if_neg (by rw [hsd]; omega)] at this
      rw [up_ne _ _ e, up_ne _ _ e, sid_mid, if_neg (show ¬ (less o z).side = (m : Int) from by show ¬ o.side = (m : Int); rw [hsd]; omega)]
      exact this
  · rcases List.mem_append.1 hx with h | h
    · exact I.ok x (by simp [h])
    · rcases List.mem_cons.1 h with rfl | h
      · exact ⟨ho.1, ho.2.1, ⟨by show 1 ≤ o.qty - z; omega, by show o.qty - z ≤ _; have := ho.2.2.1; omega⟩, ho.2.2.2⟩
      · exact I.ok x (by simp [h])
  · have h := I.ids
    rw [List.map_append, List.map_cons] at h ⊢
    exact h
theorem Cs.upd {c c' : Nat → Nat} {w w1 w2 : World} {g : Nat} (h : Cs c c' w w1) (hg : w.heap.size ≤ g) (u : Upd g w1 w2) : Cs c c' w w2 :=
  ⟨u.os.trans h.os, u.tape.trans h.tape, u.output.trans h.output, by rw [u.size]; exact h.size, h.old, fun q hq h9 => (u.block q (by omega)).trans (h.same q hq h9)⟩
/-- What leaves a book's blocks leaves the book. -/
theorem Bw.only9 {w w' : World} {c : Nat → Nat} {b N most k : Nat} {d : Bd} {R : List R3} (B : Bw w c b N most k d R) (O : Only c 9 w w') : Bw w' c b N most k d R := by
  have hl : ∀ n, n < 2 → d.l n < w.heap.size := fun n hn => (B.la n hn).hd.lt
  have hq : ∀ n, n < 2 → _ := fun n hn => (B.fq n hn).lt
  obtain ⟨x1, x2, x3⟩ := B.ix.lt
  exact ⟨(O.same b B.lt (by rw [B.cb]; decide)).trans B.hd, ar_keep B.ar (O.same _ B.ar.lt (by rw [B.ca]; decide)), fun n hn => la_keep (B.la n hn) (O.same _ (hl n hn) (by rw [B.cl n hn]; omega)) (fun r hr => O.same r ((B.la n hn).own_lt r hr).2 (by rw [B.cv n hn r hr]; omega)),
    fun n hn => fq_keep (B.fq n hn) (O.same _ (hq n hn).1 (by rw [(B.cq n hn).1]; omega)) (O.same _ (hq n hn).2.1 (by rw [(B.cq n hn).2.1]; omega)) (O.same _ (hq n hn).2.2 (by rw [(B.cq n hn).2.2]; omega)),
    xq_keep B.ix (O.same _ x1 (by rw [B.cx.1]; decide)) (O.same _ x2 (by rw [B.cx.2.1]; decide)) (O.same _ x3 (by rw [B.cx.2.2]; decide)), B.cb, B.ca, B.cl, B.cq, B.cx, B.cv, fun r hr => B.out r (Nat.le_trans O.size hr)⟩
theorem Bs.only9 {w w' : World} {c : Nat → Nat} {b N most k : Nat} {ss : List Sl} (B : Bs w c b N most k ss) (O : Only c 9 w w') : Bs w' c b N most k ss := by
  obtain ⟨d, B, I⟩ := B
  exact ⟨d, B.only9 O, I⟩
theorem Only.upd9 {c : Nat → Nat} {w w' : World} {g : Nat} (u : Upd g w w') (hg : c g = 9) : Only c 9 w w' := ⟨u.os, u.tape, u.output, Nat.le_of_eq u.size.symm, fun q _ hn => u.block q (fun e => hn (by rw [e]; exact hg))⟩
end Bk
end Go.Proofs.YtbnappiaomiciaaGreat
namespace Go.Proofs.YtbnappiaomiciaaGreat
set_option linter.unusedVariables false
open Go.RowKit
namespace Bk
set_option maxHeartbeats 1000000
set_option maxRecDepth 10000
open Are (St Ar ord0 ordArr_one dropS setS)
open Fif (Fq up up_same up_ne)
open Idx (R3 Xq Wf)
section
variable {w : World} {c : Nat → Nat} {b N most k : Nat} {ss : List Sl}
theorem gone_any {A C : List Sl} {kk : Nat} {o : Ord} (B : Bs w c b N most k (A ++ (kk, o) :: C)) (x : Ord) (hx : x.id = o.id ∧ x.side = o.side ∧ x.price = o.price) (hk : k < 1000) :
    Calls Tryz.prog 86 #[.pointer (some ⟨b, 0, none⟩), .agg x.arr, .int .i64 kk, .int .i64 o.qty] w fun e w' => e = .returned (.tuple #[]) ∧ ∃ c', Bs w' c' b N most (k + 1) (A ++ C) ∧ Cs c c' w w' := by
  obtain ⟨d, B, I⟩ := B
  have hok : okO o := I.ok (kk, o) (by simp)
  obtain ⟨n, hsd, hn⟩ : ∃ n : Nat, o.side = (n : Int) ∧ n < 2 := ⟨o.side.toNat, by have := hok.1; omega, by have := hok.1; omega⟩
  obtain ⟨st, fl, ls, u, l, hQ, hT, hA, hX, hI⟩ := rem_plan I hn hsd
  obtain ⟨hx1, hx2, hx3⟩ := hx
  rw [← hx3] at hT
  rw [← hx1] at hX
  have HQ := Lib.hid hQ
  have HT := Lib.hid hT
  have HA := Lib.hid hA
  have HX := Lib.hid hX
  have HI := Lib.hid hI
  have HO := Lib.hid (fun W => of_yes (w := W) (b := b) (m := n) x.side (hx2.trans hsd) hn)
  clear hQ hT hA hX hI I hx1 hx2 hx3 hsd hok
  have hbl := B.lt
  have h9 : c w.heap.size = 9 := B.out _ (Nat.le_refl _)
  have hO : Blk (w.alloc (.cells x.arr 30)) w.heap.size 30 x.arr := Blk.new _ _ _ _ rfl
  have hb0 : Below w.heap.size w (w.alloc (.cells x.arr 30)) := by (repeat (first | with_reducible exact Below.refl _ _ | (with_reducible assumption) | (with_reducible refine below_alloc ?_ _) | (with_reducible refine below_ext (w1 := ?_) ?_ ?_; rotate_left 2; (with_reducible assumption)) | (with_reducible refine Below.setCell ?_ ?_ _; rotate_left; ((try simp) <;> omega)) | (with_reducible refine Below.drew ?_) | (with_reducible refine below_drewN ?_ _) | fail))
  generalize hW0 : w.alloc (.cells x.arr 30) = w0 at hO hb0
  have HW0 := Lib.hid hW0
  have B0 := Lib.hid (B.ext hb0)
  clear hW0 B
  have k2 : w0.cell? ⟨w.heap.size, 2, none⟩ = some (.int .i64 x.side) := hO.cell 2
  have HB := Lib.hid hO
  have HCS := Lib.hid (Cs.of_below (c := c) hb0)
  have hbl0 : b < w0.heap.size := Nat.lt_of_lt_of_le hbl hb0.size
  clear hO
  have hn2 : n = 0 ∨ n = 1 := by omega
  rcases hn2 with rfl | rfl
  · go_enter Tryz.func86, Tryz.ntmps86
    go_wp2_with fail
    rw [HW0.out]
    go_wp2_with (first | (go_at_call 56; refine (HO.out _).mono ?_; rintro e w1 ⟨rfl, rfl⟩; have e2 : w0.cell? ⟨b, 2, none⟩ = some (.pointer (some ⟨d.q 0, 0, none⟩)) := B0.out.cells.2.2.1) | (go_at_call 104; refine (HQ.out _ _ _ _ _ B0.out).mono ?_; rintro e w1 ⟨y, rfl, B1, cs1⟩) | fail)
    have hO1 := Lib.hid (cs1.blk HB.out h9)
    have B1' := Lib.hid B1
    have e1 : w1.cell? ⟨b, 1, none⟩ = some (.pointer (some ⟨d.l 0, 0, none⟩)) := B1.cells.2.1
    have e3 : w1.cell? ⟨w.heap.size, 3, none⟩ = some (.int .i64 x.price) := hO1.out.cell 3
    have hbl1 := B1.lt
    have hwl1 := hO1.out.lt
    clear k2 e2 B0 B1 HQ
    refine wp_region_below_tail 7 (by kernel_rfl) (by kernel_rfl) ?_
    simp only [List.take_succ_cons, List.take_zero, List.drop_succ_cons, List.drop_zero]
    repeat (first | go_big_quiet_skip | (go_big_quiet_want; go_big_quiet_op; go_big_quiet_on) | (refine q_load_fld (by rfl) _ _ (by rfl) (fun _ h => h) _ _ (by rfl) ?_ ?_ ?_ ?_ ?_ ?_; rotate_left; (next => (repeat (first | (with_reducible refine BlkAt.new _ _ _ _ ?_; ((try simp) <;> omega)) | (with_reducible assumption) | (with_reducible refine Blk.at (t := ?_) ?_; rotate_left; with_reducible assumption) | with_reducible refine BlkAt.alloc ?_ _ | with_reducible refine BlkAt.drew ?_ | (with_reducible refine BlkAt.setSame ?_ _ _) | (with_reducible refine BlkAt.setCell ?_ ?_ _; rotate_left; ((try simp) <;> omega)) | (with_reducible refine BlkAt.ext (w := ?_) ?_ ?_; rotate_left 2; (with_reducible assumption)) | fail))); rotate_left; (next => first | (simp only [go_sem]; rfl) | rfl); (next => kernel_rfl); (try simp only [Act.put, List.setIfInBounds_toArray, List.set_cons_zero, List.set_cons_succ])) | (refine q_rem (by rfl) _ _ _ _ (by rfl) _ _ (by rfl) (by rfl) (by kernel_rfl) (by kernel_rfl) ?_ ?_; (next => omega); (try simp only [Act.put, List.setIfInBounds_toArray, List.set_cons_zero, List.set_cons_succ])) | (refine q_step_ex (by rfl) ?_; apply Exists.intro; refine ⟨fun W hW => ?_, ?_⟩; (next => (have hWc := fun (b o : Nat) (h : b < _) => (Ext.out hW).cell (p := ⟨b, o, none⟩) h); (try have hLK := HLK.out W (Ext.out hW)); go_simp; first | rfl | fail | fail); (try simp only [Act.put, List.setIfInBounds_toArray, List.set_cons_zero, List.set_cons_succ])) | fail)
    refine wpQuiet_nil ?_
    intro w2 hb2
    go_wp2_with (first | (go_at_call 87; refine (HT.out _ _ _ _ _ (B1'.out.ext hb2)).mono ?_; rintro e w3 ⟨y, rfl, v, c3, B3, cs3⟩; have r3 := (cs1.trans (Cs.of_below hb2)).trans cs3; have B3' := Lib.hid B3; have f0 : w3.cell? ⟨b, 0, none⟩ = some (.pointer (some ⟨d.a, 0, none⟩)) := B3.cells.1; clear e1 e3) | (go_at_call 105; refine (HA.out _ _ _ _ _ _ B3'.out).mono ?_; rintro e w4 ⟨rfl, B4, cs4⟩) | fail)
    have r4 := r3.trans cs4
    have hO4 := Lib.hid (r4.blk HB.out h9)
    have B4' := Lib.hid B4
    have g5 : w4.cell? ⟨b, 5, none⟩ = some (.pointer (some ⟨d.x, 0, none⟩)) := B4.cells.2.2.2.2.2
    have g0 : w4.cell? ⟨w.heap.size, 0, none⟩ = some (.int .i64 x.id) := hO4.out.cell 0
    have hbl4 := B4.lt
    have hwl4 := hO4.out.lt
    clear f0 B4 B3 B3' HA HT
    refine wp_region_below_tail 7 (by kernel_rfl) (by kernel_rfl) ?_
    simp only [List.take_succ_cons, List.take_zero, List.drop_succ_cons, List.drop_zero]
    repeat (first | go_big_quiet_skip | (go_big_quiet_want; go_big_quiet_op; go_big_quiet_on) | (refine q_load_fld (by rfl) _ _ (by rfl) (fun _ h => h) _ _ (by rfl) ?_ ?_ ?_ ?_ ?_ ?_; rotate_left; (next => (repeat (first | (with_reducible refine BlkAt.new _ _ _ _ ?_; ((try simp) <;> omega)) | (with_reducible assumption) | (with_reducible refine Blk.at (t := ?_) ?_; rotate_left; with_reducible assumption) | with_reducible refine BlkAt.alloc ?_ _ | with_reducible refine BlkAt.drew ?_ | (with_reducible refine BlkAt.setSame ?_ _ _) | (with_reducible refine BlkAt.setCell ?_ ?_ _; rotate_left; ((try simp) <;> omega)) | (with_reducible refine BlkAt.ext (w := ?_) ?_ ?_; rotate_left 2; (with_reducible assumption)) | fail))); rotate_left; (next => first | (simp only [go_sem]; rfl) | rfl); (next => kernel_rfl); (try simp only [Act.put, List.setIfInBounds_toArray, List.set_cons_zero, List.set_cons_succ])) | (refine q_rem (by rfl) _ _ _ _ (by rfl) _ _ (by rfl) (by rfl) (by kernel_rfl) (by kernel_rfl) ?_ ?_; (next => omega); (try simp only [Act.put, List.setIfInBounds_toArray, List.set_cons_zero, List.set_cons_succ])) | (refine q_step_ex (by rfl) ?_; apply Exists.intro; refine ⟨fun W hW => ?_, ?_⟩; (next => (have hWc := fun (b o : Nat) (h : b < _) => (Ext.out hW).cell (p := ⟨b, o, none⟩) h); (try have hLK := HLK.out W (Ext.out hW)); go_simp; first | rfl | (go_at_call 58; refine (key_any _ _).mono ?_; rintro e w'' ⟨rfl, hb2⟩; exact ⟨rfl, below_ext hW hb2⟩) | fail); (try simp only [Act.put, List.setIfInBounds_toArray, List.set_cons_zero, List.set_cons_succ])) | fail)
    refine wpQuiet_nil ?_
    intro w5 hb5
    go_wp2_with (first | (go_at_call 106; refine (HX.out _ _ _ _ v hk (B4'.out.ext hb5)).mono ?_; rintro e w6 ⟨rfl, B6, cs6⟩) | fail)
    go_end0
    exact ⟨rfl, c3, ⟨_, B6, HI.out v⟩, HCS.out.trans (r4.trans ((Cs.of_below hb5).trans cs6))⟩
  · go_enter Tryz.func86, Tryz.ntmps86
    go_wp2_with fail
    rw [HW0.out]
    go_wp2_with (first | (go_at_call 56; refine (HO.out _).mono ?_; rintro e w1 ⟨rfl, rfl⟩; have e2 : w0.cell? ⟨b, 4, none⟩ = some (.pointer (some ⟨d.q 1, 0, none⟩)) := B0.out.cells.2.2.2.2.1) | (go_at_call 104; refine (HQ.out _ _ _ _ _ B0.out).mono ?_; rintro e w1 ⟨y, rfl, B1, cs1⟩) | fail)
    have hO1 := Lib.hid (cs1.blk HB.out h9)
    have B1' := Lib.hid B1
    have e1 : w1.cell? ⟨b, 3, none⟩ = some (.pointer (some ⟨d.l 1, 0, none⟩)) := B1.cells.2.2.2.1
    have e3 : w1.cell? ⟨w.heap.size, 3, none⟩ = some (.int .i64 x.price) := hO1.out.cell 3
    have hbl1 := B1.lt
    have hwl1 := hO1.out.lt
    clear k2 e2 B0 B1 HQ
    refine wp_region_below_tail 7 (by kernel_rfl) (by kernel_rfl) ?_
    simp only [List.take_succ_cons, List.take_zero, List.drop_succ_cons, List.drop_zero]
    repeat (first | go_big_quiet_skip | (go_big_quiet_want; go_big_quiet_op; go_big_quiet_on) | (refine q_load_fld (by rfl) _ _ (by rfl) (fun _ h => h) _ _ (by rfl) ?_ ?_ ?_ ?_ ?_ ?_; rotate_left; (next => (repeat (first | (with_reducible refine BlkAt.new _ _ _ _ ?_; ((try simp) <;> omega)) | (with_reducible assumption) | (with_reducible refine Blk.at (t := ?_) ?_; rotate_left; with_reducible assumption) | with_reducible refine BlkAt.alloc ?_ _ | with_reducible refine BlkAt.drew ?_ | (with_reducible refine BlkAt.setSame ?_ _ _) | (with_reducible refine BlkAt.setCell ?_ ?_ _; rotate_left; ((try simp) <;> omega)) | (with_reducible refine BlkAt.ext (w := ?_) ?_ ?_; rotate_left 2; (with_reducible assumption)) | fail))); rotate_left; (next => first | (simp only [go_sem]; rfl) | rfl); (next => kernel_rfl); (try simp only [Act.put, List.setIfInBounds_toArray, List.set_cons_zero, List.set_cons_succ])) | (refine q_rem (by rfl) _ _ _ _ (by rfl) _ _ (by rfl) (by rfl) (by kernel_rfl) (by kernel_rfl) ?_ ?_; (next => omega); (try simp only [Act.put, List.setIfInBounds_toArray, List.set_cons_zero, List.set_cons_succ])) | (refine q_step_ex (by rfl) ?_; apply Exists.intro; refine ⟨fun W hW => ?_, ?_⟩; (next => (have hWc := fun (b o : Nat) (h : b < _) => (Ext.out hW).cell (p := ⟨b, o, none⟩) h); (try have hLK := HLK.out W (Ext.out hW)); go_simp; first | rfl | fail | fail); (try simp only [Act.put, List.setIfInBounds_toArray, List.set_cons_zero, List.set_cons_succ])) | fail)
    refine wpQuiet_nil ?_
    intro w2 hb2
    go_wp2_with (first | (go_at_call 87; refine (HT.out _ _ _ _ _ (B1'.out.ext hb2)).mono ?_; rintro e w3 ⟨y, rfl, v, c3, B3, cs3⟩; have r3 := (cs1.trans (Cs.of_below hb2)).trans cs3; have B3' := Lib.hid B3; have f0 : w3.cell? ⟨b, 0, none⟩ = some (.pointer (some ⟨d.a, 0, none⟩)) := B3.cells.1; clear e1 e3) | (go_at_call 105; refine (HA.out _ _ _ _ _ _ B3'.out).mono ?_; rintro e w4 ⟨rfl, B4, cs4⟩) | fail)
    have r4 := r3.trans cs4
    have hO4 := Lib.hid (r4.blk HB.out h9)
    have B4' := Lib.hid B4
    have g5 : w4.cell? ⟨b, 5, none⟩ = some (.pointer (some ⟨d.x, 0, none⟩)) := B4.cells.2.2.2.2.2
    have g0 : w4.cell? ⟨w.heap.size, 0, none⟩ = some (.int .i64 x.id) := hO4.out.cell 0
    have hbl4 := B4.lt
    have hwl4 := hO4.out.lt
    clear f0 B4 B3 B3' HA HT
    refine wp_region_below_tail 7 (by kernel_rfl) (by kernel_rfl) ?_
    simp only [List.take_succ_cons, List.take_zero, List.drop_succ_cons, List.drop_zero]
    repeat (first | go_big_quiet_skip | (go_big_quiet_want; go_big_quiet_op; go_big_quiet_on) | (refine q_load_fld (by rfl) _ _ (by rfl) (fun _ h => h) _ _ (by rfl) ?_ ?_ ?_ ?_ ?_ ?_; rotate_left; (next => (repeat (first | (with_reducible refine BlkAt.new _ _ _ _ ?_; ((try simp) <;> omega)) | (with_reducible assumption) | (with_reducible refine Blk.at (t := ?_) ?_; rotate_left; with_reducible assumption) | with_reducible refine BlkAt.alloc ?_ _ | with_reducible refine BlkAt.drew ?_ | (with_reducible refine BlkAt.setSame ?_ _ _) | (with_reducible refine BlkAt.setCell ?_ ?_ _; rotate_left; ((try simp) <;> omega)) | (with_reducible refine BlkAt.ext (w := ?_) ?_ ?_; rotate_left 2; (with_reducible assumption)) | fail))); rotate_left; (next => first | (simp only [go_sem]; rfl) | rfl); (next => kernel_rfl); (try simp only [Act.put, List.setIfInBounds_toArray, List.set_cons_zero, List.set_cons_succ])) | (refine q_rem (by rfl) _ _ _ _ (by rfl) _ _ (by rfl) (by rfl) (by kernel_rfl) (by kernel_rfl) ?_ ?_; (next => omega); (try simp only [Act.put, List.setIfInBounds_toArray, List.set_cons_zero, List.set_cons_succ])) | (refine q_step_ex (by rfl) ?_; apply Exists.intro; refine ⟨fun W hW => ?_, ?_⟩; (next => (have hWc := fun (b o : Nat) (h : b < _) => (Ext.out hW).cell (p := ⟨b, o, none⟩) h); (try have hLK := HLK.out W (Ext.out hW)); go_simp; first | rfl | (go_at_call 58; refine (key_any _ _).mono ?_; rintro e w'' ⟨rfl, hb2⟩; exact ⟨rfl, below_ext hW hb2⟩) | fail); (try simp only [Act.put, List.setIfInBounds_toArray, List.set_cons_zero, List.set_cons_succ])) | fail)
    refine wpQuiet_nil ?_
    intro w5 hb5
    go_wp2_with (first | (go_at_call 106; refine (HX.out _ _ _ _ v hk (B4'.out.ext hb5)).mono ?_; rintro e w6 ⟨rfl, B6, cs6⟩) | fail)
    go_end0
    exact ⟨rfl, c3, ⟨_, B6, HI.out v⟩, HCS.out.trans (r4.trans ((Cs.of_below hb5).trans cs6))⟩
/-- The rest of a list of orders when an ID goes. -/
def rmI (id : Int) (os : List Ord) : List Ord := os.filter fun o => !decide (o.id = id)
theorem rm_none {id : Int} {os : List Ord} (h : fndI id os = none) : rmI id os = os := by
  unfold fndI at h
  unfold rmI
  rw [List.filter_eq_self]
  intro o ho
  have := List.find?_eq_none.1 h o ho
  simpa using this
theorem rm_mid {A C : List Sl} {kk : Nat} {o : Ord} (h : ((A ++ (kk, o) :: C).map (·.2.id)).Nodup) : rmI o.id (osOf (A ++ (kk, o) :: C)) = osOf (A ++ C) := by
  rw [List.map_append, List.map_cons, List.nodup_append, List.nodup_cons] at h
  obtain ⟨_, ⟨h2, _⟩, h4⟩ := h
  have keep : ∀ l : List Sl, (∀ x ∈ l, x.2.id ≠ o.id) → rmI o.id (osOf l) = osOf l := fun l hl => by
    unfold rmI osOf
    rw [List.filter_eq_self]
    intro r hr
    obtain ⟨x, hx, rfl⟩ := List.mem_map.1 hr
    simp [hl x hx]
  have hA := keep A (fun x hx e => h4 _ (List.mem_map.2 ⟨x, hx, rfl⟩) _ (by simp) e)
  have hC := keep C (fun x hx e => h2 (List.mem_map.2 ⟨x, hx, e⟩))
  have e1 : osOf (A ++ (kk, o) :: C) = osOf A ++ o :: osOf C := by simp [osOf]
  have e2 : osOf (A ++ C) = osOf A ++ osOf C := by simp [osOf]
  rw [e1, e2]
  unfold rmI at *
  rw [List.filter_append, hA, List.filter_cons_of_neg (by simp), hC]
theorem remove_no (B : Bs w c b N most k ss) {id : Int} (hid : Wf id) (h : ∀ x ∈ ss, x.2.id ≠ id) : Calls Tryz.prog 54 #[.pointer (some ⟨b, 0, none⟩), .int .i64 id] w fun e w' => e = .returned (.tuple #[.agg ord0.arr, .int .i64 5]) ∧ Below w.heap.size w w' := by
  have hN0 : Blk (w.alloc (.cells #[.int .i64 0, .int .i64 0, .int .i64 0, .int .i64 0, .int .i64 0, .int .i64 0, .int .i64 0] 30)) w.heap.size 30 #[.int .i64 0, .int .i64 0, .int .i64 0, .int .i64 0, .int .i64 0, .int .i64 0, .int .i64 0] := Blk.new _ _ _ _ rfl
  have hb0 : Below w.heap.size w (w.alloc (.cells #[.int .i64 0, .int .i64 0, .int .i64 0, .int .i64 0, .int .i64 0, .int .i64 0, .int .i64 0] 30)) := by (repeat (first | with_reducible exact Below.refl _ _ | (with_reducible assumption) | (with_reducible refine below_alloc ?_ _) | (with_reducible refine below_ext (w1 := ?_) ?_ ?_; rotate_left 2; (with_reducible assumption)) | (with_reducible refine Below.setCell ?_ ?_ _; rotate_left; ((try simp) <;> omega)) | (with_reducible refine Below.drew ?_) | (with_reducible refine below_drewN ?_ _) | fail))
  have HF := Lib.hid (find_no (B.ext hb0) hid h)
  clear B h
  go_enter Tryz.func54, Tryz.ntmps54
  go_wp2_with (first | (go_at_call 67; refine HF.out.mono ?_; rintro e w1 ⟨rfl, hb1⟩; have hN1 := hN0.ext hb1; clear hN0; have hT1 := Blk.new w1 30 #[.int .i64 0, .int .i64 0, .int .i64 0, .int .i64 0, .int .i64 0, .int .i64 0, .int .i64 0] _ rfl) | (((with_reducible show wpList _ _ _ (⟨_, .store 30 _ _, _, _, _, _⟩ :: _) _ _); refine wpList_store_blk (by rfl) 30 _ _ (by rfl) _ _ (by rfl) (by rfl) _ _ hT1 (by kernel_rfl) (by rfl) ?_ ?_; (next => first | (simp [Value.oneCell']; done) | (simp [Value.oneCell', Edt.cells]; done) | exact Are.ordArr_one _); intro w3 hT3 hU3); have hN3 := (hN1.alloc (.cells #[.int .i64 0, .int .i64 0, .int .i64 0, .int .i64 0, .int .i64 0, .int .i64 0, .int .i64 0] 30)).upd (by have := hN1.lt; omega) hU3) | ((with_reducible show wpList _ _ _ (⟨_, .load 30 _, _, _, _, _⟩ :: _) _ _); refine wpList_load_ho 30 _ (by rfl) (by rfl) ?_ (.pointer (some ⟨_, 0, none⟩)) (by rfl) ?_ _ Tryz.underlying30 rfl ?_ ?_; rotate_left; (next => (repeat (first | (with_reducible refine BlkAt.new _ _ _ _ ?_; ((try simp) <;> omega)) | (with_reducible assumption) | (with_reducible refine Blk.at (t := ?_) ?_; rotate_left; with_reducible assumption) | with_reducible refine BlkAt.alloc ?_ _ | with_reducible refine BlkAt.drew ?_ | (with_reducible refine BlkAt.setSame ?_ _ _) | (with_reducible refine BlkAt.setCell ?_ ?_ _; rotate_left; ((try simp) <;> omega)) | (with_reducible refine BlkAt.ext (w := ?_) ?_ ?_; rotate_left 2; (with_reducible assumption)) | fail))); (next => kernel_rfl)) | ((with_reducible show wpList _ _ _ (⟨_, .store 30 _ _, _, _, _, _⟩ :: _) _ _); refine wpList_store_blk (by rfl) 30 _ _ (by rfl) _ _ (by rfl) (by rfl) _ _ hN3 (by kernel_rfl) (by rfl) ?_ ?_; (next => first | (simp [Value.oneCell']; done) | (simp [Value.oneCell', Edt.cells]; done) | exact Are.ordArr_one _); intro w4 hN4 hU4) | fail)
  have hb3 : Below w1.heap.size w1 w3 := below_upd (by (repeat (first | with_reducible exact Below.refl _ _ | (with_reducible assumption) | (with_reducible refine below_alloc ?_ _) | (with_reducible refine below_ext (w1 := ?_) ?_ ?_; rotate_left 2; (with_reducible assumption)) | (with_reducible refine Below.setCell ?_ ?_ _; rotate_left; ((try simp) <;> omega)) | (with_reducible refine Below.drew ?_) | (with_reducible refine below_drewN ?_ _) | fail))) (Nat.le_refl _) hU3
  have hN5 : Blk w4 w.heap.size 30 ord0.arr := hN4
  exact bodyPost_ret (results_ord2 rfl _ _ _ _ _ (by rfl) (by rfl) hN5 rfl) rfl ⟨rfl, below_upd (below_ext (below_ext hb0 hb1) hb3) (Nat.le_refl _) hU4⟩
theorem remove_yes {A C : List Sl} {kk : Nat} {o : Ord} (B : Bs w c b N most k (A ++ (kk, o) :: C)) (hk : k < 1000) : Calls Tryz.prog 54 #[.pointer (some ⟨b, 0, none⟩), .int .i64 o.id] w fun e w' => e = .returned (.tuple #[.agg o.arr, .int .i64 0]) ∧ ∃ c', Bs w' c' b N most (k + 1) (A ++ C) ∧ Cs c c' w w' := by
  have hbl := B.lt
  have h9 : c w.heap.size = 9 := by
    obtain ⟨d, B, I⟩ := B
    exact B.out _ (Nat.le_refl _)
  have h9b : ∀ q, w.heap.size ≤ q → c q = 9 := by
    obtain ⟨d, B, I⟩ := B
    exact B.out
  have hN0 : Blk (w.alloc (.cells #[.int .i64 0, .int .i64 0, .int .i64 0, .int .i64 0, .int .i64 0, .int .i64 0, .int .i64 0] 30)) w.heap.size 30 #[.int .i64 0, .int .i64 0, .int .i64 0, .int .i64 0, .int .i64 0, .int .i64 0, .int .i64 0] := Blk.new _ _ _ _ rfl
  have hb0 : Below w.heap.size w (w.alloc (.cells #[.int .i64 0, .int .i64 0, .int .i64 0, .int .i64 0, .int .i64 0, .int .i64 0, .int .i64 0] 30)) := by (repeat (first | with_reducible exact Below.refl _ _ | (with_reducible assumption) | (with_reducible refine below_alloc ?_ _) | (with_reducible refine below_ext (w1 := ?_) ?_ ?_; rotate_left 2; (with_reducible assumption)) | (with_reducible refine Below.setCell ?_ ?_ _; rotate_left; ((try simp) <;> omega)) | (with_reducible refine Below.drew ?_) | (with_reducible refine below_drewN ?_ _) | fail))
  have HF := Lib.hid (find_yes (B.ext hb0) (x := (kk, o)) (by simp))
  have HB := Lib.hid B
  clear B
  go_enter Tryz.func54, Tryz.ntmps54
  go_wp2_with (first | (go_at_call 67; refine HF.out.mono ?_; rintro e w1 ⟨rfl, hb1⟩; have hN1 := hN0.ext hb1; clear hN0; have hT1 := Blk.new w1 30 #[.int .i64 0, .int .i64 0, .int .i64 0, .int .i64 0, .int .i64 0, .int .i64 0, .int .i64 0] _ rfl) | (((with_reducible show wpList _ _ _ (⟨_, .store 30 _ _, _, _, _, _⟩ :: _) _ _); refine wpList_store_blk (by rfl) 30 _ _ (by rfl) _ _ (by rfl) (by rfl) _ _ hT1 (by kernel_rfl) (by rfl) ?_ ?_; (next => first | (simp [Value.oneCell']; done) | (simp [Value.oneCell', Edt.cells]; done) | exact Are.ordArr_one _); intro w3 hT3 hU3); have cq4 : w3.cell? ⟨w1.heap.size, 4, none⟩ = some (.int .i64 o.qty) := hT3.cell 4; have hN3 := Lib.hid ((hN1.alloc (.cells #[.int .i64 0, .int .i64 0, .int .i64 0, .int .i64 0, .int .i64 0, .int .i64 0, .int .i64 0] 30)).upd (by have := hN1.lt; omega) hU3); have hb3 : Below w1.heap.size w1 w3 := below_upd (by (repeat (first | with_reducible exact Below.refl _ _ | (with_reducible assumption) | (with_reducible refine below_alloc ?_ _) | (with_reducible refine below_ext (w1 := ?_) ?_ ?_; rotate_left 2; (with_reducible assumption)) | (with_reducible refine Below.setCell ?_ ?_ _; rotate_left; ((try simp) <;> omega)) | (with_reducible refine Below.drew ?_) | (with_reducible refine below_drewN ?_ _) | fail))) (Nat.le_refl _) hU3; have hb03 := below_ext (below_ext hb0 hb1) hb3; have HG := Lib.hid (gone_any (HB.out.ext hb03) o ⟨rfl, rfl, rfl⟩ hk)) | ((with_reducible show wpList _ _ _ (⟨_, .load 30 _, _, _, _, _⟩ :: _) _ _); refine wpList_load_ho 30 _ (by rfl) (by rfl) ?_ (.pointer (some ⟨_, 0, none⟩)) (by rfl) ?_ _ Tryz.underlying30 rfl ?_ ?_; rotate_left; (next => (repeat (first | (with_reducible refine BlkAt.new _ _ _ _ ?_; ((try simp) <;> omega)) | (with_reducible assumption) | (with_reducible refine Blk.at (t := ?_) ?_; rotate_left; with_reducible assumption) | with_reducible refine BlkAt.alloc ?_ _ | with_reducible refine BlkAt.drew ?_ | (with_reducible refine BlkAt.setSame ?_ _ _) | (with_reducible refine BlkAt.setCell ?_ ?_ _; rotate_left; ((try simp) <;> omega)) | (with_reducible refine BlkAt.ext (w := ?_) ?_ ?_; rotate_left 2; (with_reducible assumption)) | fail))); (next => kernel_rfl)) | (go_at_call 86; refine HG.out.mono ?_; rintro e w4 ⟨rfl, c4, B4, cs4⟩; have hT4 := cs4.blk hT3 (h9b _ (by have := hb1.size; have := hb0.size; omega)); have hN4 := cs4.blk hN3.out h9; clear hT3 cq4) | ((with_reducible show wpList _ _ _ (⟨_, .store 30 _ _, _, _, _, _⟩ :: _) _ _); refine wpList_store_blk (by rfl) 30 _ _ (by rfl) _ _ (by rfl) (by rfl) _ _ hN4 (by kernel_rfl) (by rfl) ?_ ?_; (next => first | (simp [Value.oneCell']; done) | (simp [Value.oneCell', Edt.cells]; done) | exact Are.ordArr_one _); intro w5 hN5 hU5) | fail)
  have hN5 : Blk w5 w.heap.size 30 o.arr := hN5
  refine bodyPost_ret (results_ord2 rfl _ _ _ _ _ (by rfl) (by rfl) hN5 rfl) rfl ⟨rfl, c4, ?_, ?_⟩
  · exact B4.only9 (Only.upd9 hU5 ((cs4.old _ hN3.out.lt).trans h9))
  · exact ((Cs.of_below hb03).trans cs4).upd (Nat.le_refl _) hU5
/-- What Remove answers. -/
theorem remove_any (B : Bs w c b N most k ss) {id : Int} (hid : Wf id) (hk : k < 1000) : Calls Tryz.prog 54 #[.pointer (some ⟨b, 0, none⟩), .int .i64 id] w fun e w' => e = .returned (.tuple #[.agg ((fndI id (osOf ss)).getD ord0).arr, .int .i64 (if (fndI id (osOf ss)).isSome then 0 else 5)]) ∧ ∃ c' ss', Bs w' c' b N most (k + 1) ss' ∧ osOf ss' = rmI id (osOf ss) ∧ Cs c c' w w' := by
  rcases fnd_cases ss id with ⟨x, hx, rfl, h2⟩ | ⟨h1, h2⟩
  · rw [h2]
    obtain ⟨A, C, rfl⟩ := List.append_of_mem hx
    obtain ⟨kk, o⟩ := x
    have hids : ((A ++ (kk, o) :: C).map (·.2.id)).Nodup := by
      obtain ⟨d, B, I⟩ := B
      exact I.ids
    refine (remove_yes B hk).mono ?_
    rintro e w' ⟨rfl, c', h3, h4⟩
    exact ⟨rfl, c', _, h3, (rm_mid hids).symm, h4⟩
  · rw [h2]
    refine (remove_no B hid h1).mono ?_
    rintro e w' ⟨rfl, hb⟩
    exact ⟨rfl, c, ss, (B.ext hb).mono1 hk, (rm_none h2).symm, Cs.of_below hb⟩
end
end Bk
end Go.Proofs.YtbnappiaomiciaaGreat
namespace Go.Proofs.YtbnappiaomiciaaGreat
set_option linter.unusedVariables false
open Go.RowKit
namespace Bk
set_option maxHeartbeats 1000000
set_option maxRecDepth 10000
open Are (St Ar ord0 ordArr_one dropS setS)
open Fif (Fq up up_same up_ne)
open Idx (R3 Xq Wf)
section
variable {w : World} {c : Nat → Nat} {b N most k : Nat} {ss : List Sl}
theorem reduce_no (B : Bs w c b N most k ss) {id : Int} (by_ : Int) (hid : Wf id) (h : ∀ x ∈ ss, x.2.id ≠ id) : Calls Tryz.prog 55 #[.pointer (some ⟨b, 0, none⟩), .int .i64 id, .int .i64 by_] w fun e w' => e = .returned (.tuple #[.agg ord0.arr, .int .i64 5]) ∧ Below w.heap.size w w' := by
  have hN0 : Blk (w.alloc (.cells #[.int .i64 0, .int .i64 0, .int .i64 0, .int .i64 0, .int .i64 0, .int .i64 0, .int .i64 0] 30)) w.heap.size 30 #[.int .i64 0, .int .i64 0, .int .i64 0, .int .i64 0, .int .i64 0, .int .i64 0, .int .i64 0] := Blk.new _ _ _ _ rfl
  have hb0 : Below w.heap.size w (w.alloc (.cells #[.int .i64 0, .int .i64 0, .int .i64 0, .int .i64 0, .int .i64 0, .int .i64 0, .int .i64 0] 30)) := by (repeat (first | with_reducible exact Below.refl _ _ | (with_reducible assumption) | (with_reducible refine below_alloc ?_ _) | (with_reducible refine below_ext (w1 := ?_) ?_ ?_; rotate_left 2; (with_reducible assumption)) | (with_reducible refine Below.setCell ?_ ?_ _; rotate_left; ((try simp) <;> omega)) | (with_reducible refine Below.drew ?_) | (with_reducible refine below_drewN ?_ _) | fail))
  have HF := Lib.hid (find_no (B.ext hb0) hid h)
  clear B h
  go_enter Tryz.func55, Tryz.ntmps55
  go_wp2_with (first | (go_at_call 67; refine HF.out.mono ?_; rintro e w1 ⟨rfl, hb1⟩; have hN1 := hN0.ext hb1; clear hN0; have hT1 := Blk.new w1 30 #[.int .i64 0, .int .i64 0, .int .i64 0, .int .i64 0, .int .i64 0, .int .i64 0, .int .i64 0] _ rfl) | (((with_reducible show wpList _ _ _ (⟨_, .store 30 _ _, _, _, _, _⟩ :: _) _ _); refine wpList_store_blk (by rfl) 30 _ _ (by rfl) _ _ (by rfl) (by rfl) _ _ hT1 (by kernel_rfl) (by rfl) ?_ ?_; (next => first | (simp [Value.oneCell']; done) | (simp [Value.oneCell', Edt.cells]; done) | exact Are.ordArr_one _); intro w3 hT3 hU3); have hN3 := (hN1.alloc (.cells #[.int .i64 0, .int .i64 0, .int .i64 0, .int .i64 0, .int .i64 0, .int .i64 0, .int .i64 0] 30)).upd (by have := hN1.lt; omega) hU3) | ((with_reducible show wpList _ _ _ (⟨_, .load 30 _, _, _, _, _⟩ :: _) _ _); refine wpList_load_ho 30 _ (by rfl) (by rfl) ?_ (.pointer (some ⟨_, 0, none⟩)) (by rfl) ?_ _ Tryz.underlying30 rfl ?_ ?_; rotate_left; (next => (repeat (first | (with_reducible refine BlkAt.new _ _ _ _ ?_; ((try simp) <;> omega)) | (with_reducible assumption) | (with_reducible refine Blk.at (t := ?_) ?_; rotate_left; with_reducible assumption) | with_reducible refine BlkAt.alloc ?_ _ | with_reducible refine BlkAt.drew ?_ | (with_reducible refine BlkAt.setSame ?_ _ _) | (with_reducible refine BlkAt.setCell ?_ ?_ _; rotate_left; ((try simp) <;> omega)) | (with_reducible refine BlkAt.ext (w := ?_) ?_ ?_; rotate_left 2; (with_reducible assumption)) | fail))); (next => kernel_rfl)) | ((with_reducible show wpList _ _ _ (⟨_, .store 30 _ _, _, _, _, _⟩ :: _) _ _); refine wpList_store_blk (by rfl) 30 _ _ (by rfl) _ _ (by rfl) (by rfl) _ _ hN3 (by kernel_rfl) (by rfl) ?_ ?_; (next => first | (simp [Value.oneCell']; done) | (simp [Value.oneCell', Edt.cells]; done) | exact Are.ordArr_one _); intro w4 hN4 hU4) | fail)
  have hb3 : Below w1.heap.size w1 w3 := below_upd (by (repeat (first | with_reducible exact Below.refl _ _ | (with_reducible assumption) | (with_reducible refine below_alloc ?_ _) | (with_reducible refine below_ext (w1 := ?_) ?_ ?_; rotate_left 2; (with_reducible assumption)) | (with_reducible refine Below.setCell ?_ ?_ _; rotate_left; ((try simp) <;> omega)) | (with_reducible refine Below.drew ?_) | (with_reducible refine below_drewN ?_ _) | fail))) (Nat.le_refl _) hU3
  have hN5 : Blk w4 w.heap.size 30 ord0.arr := hN4
  exact bodyPost_ret (results_ord2 rfl _ _ _ _ _ (by rfl) (by rfl) hN5 rfl) rfl ⟨rfl, below_upd (below_ext (below_ext hb0 hb1) hb3) (Nat.le_refl _) hU4⟩
theorem reduce_rng (B : Bs w c b N most k ss) {x : Sl} (hx : x ∈ ss) (by_ : Int) (h : by_ < 1 ∨ x.2.qty < by_) : Calls Tryz.prog 55 #[.pointer (some ⟨b, 0, none⟩), .int .i64 x.2.id, .int .i64 by_] w fun e w' => e = .returned (.tuple #[.agg ord0.arr, .int .i64 9]) ∧ Below w.heap.size w w' := by
  have hN0 : Blk (w.alloc (.cells #[.int .i64 0, .int .i64 0, .int .i64 0, .int .i64 0, .int .i64 0, .int .i64 0, .int .i64 0] 30)) w.heap.size 30 #[.int .i64 0, .int .i64 0, .int .i64 0, .int .i64 0, .int .i64 0, .int .i64 0, .int .i64 0] := Blk.new _ _ _ _ rfl
  have hb0 : Below w.heap.size w (w.alloc (.cells #[.int .i64 0, .int .i64 0, .int .i64 0, .int .i64 0, .int .i64 0, .int .i64 0, .int .i64 0] 30)) := by (repeat (first | with_reducible exact Below.refl _ _ | (with_reducible assumption) | (with_reducible refine below_alloc ?_ _) | (with_reducible refine below_ext (w1 := ?_) ?_ ?_; rotate_left 2; (with_reducible assumption)) | (with_reducible refine Below.setCell ?_ ?_ _; rotate_left; ((try simp) <;> omega)) | (with_reducible refine Below.drew ?_) | (with_reducible refine below_drewN ?_ _) | fail))
  have HF := Lib.hid (find_yes (B.ext hb0) hx)
  clear B hx
  by_cases h1 : by_ < 1
  · clear h
    go_enter Tryz.func55, Tryz.ntmps55
    go_wp2_with (first | (go_at_call 67; refine HF.out.mono ?_; rintro e w1 ⟨rfl, hb1⟩; have hN1 := hN0.ext hb1; clear hN0; have hT1 := Blk.new w1 30 #[.int .i64 0, .int .i64 0, .int .i64 0, .int .i64 0, .int .i64 0, .int .i64 0, .int .i64 0] _ rfl) | (((with_reducible show wpList _ _ _ (⟨_, .store 30 _ _, _, _, _, _⟩ :: _) _ _); refine wpList_store_blk (by rfl) 30 _ _ (by rfl) _ _ (by rfl) (by rfl) _ _ hT1 (by kernel_rfl) (by rfl) ?_ ?_; (next => first | (simp [Value.oneCell']; done) | (simp [Value.oneCell', Edt.cells]; done) | exact Are.ordArr_one _); intro w3 hT3 hU3); have hN3 := (hN1.alloc (.cells #[.int .i64 0, .int .i64 0, .int .i64 0, .int .i64 0, .int .i64 0, .int .i64 0, .int .i64 0] 30)).upd (by have := hN1.lt; omega) hU3) | ((with_reducible show wpList _ _ _ (⟨_, .load 30 _, _, _, _, _⟩ :: _) _ _); refine wpList_load_ho 30 _ (by rfl) (by rfl) ?_ (.pointer (some ⟨_, 0, none⟩)) (by rfl) ?_ _ Tryz.underlying30 rfl ?_ ?_; rotate_left; (next => (repeat (first | (with_reducible refine BlkAt.new _ _ _ _ ?_; ((try simp) <;> omega)) | (with_reducible assumption) | (with_reducible refine Blk.at (t := ?_) ?_; rotate_left; with_reducible assumption) | with_reducible refine BlkAt.alloc ?_ _ | with_reducible refine BlkAt.drew ?_ | (with_reducible refine BlkAt.setSame ?_ _ _) | (with_reducible refine BlkAt.setCell ?_ ?_ _; rotate_left; ((try simp) <;> omega)) | (with_reducible refine BlkAt.ext (w := ?_) ?_ ?_; rotate_left 2; (with_reducible assumption)) | fail))); (next => kernel_rfl)) | ((with_reducible show wpList _ _ _ (⟨_, .store 30 _ _, _, _, _, _⟩ :: _) _ _); refine wpList_store_blk (by rfl) 30 _ _ (by rfl) _ _ (by rfl) (by rfl) _ _ hN3 (by kernel_rfl) (by rfl) ?_ ?_; (next => first | (simp [Value.oneCell']; done) | (simp [Value.oneCell', Edt.cells]; done) | exact Are.ordArr_one _); intro w4 hN4 hU4) | fail)
    have hb3 : Below w1.heap.size w1 w3 := below_upd (by (repeat (first | with_reducible exact Below.refl _ _ | (with_reducible assumption) | (with_reducible refine below_alloc ?_ _) | (with_reducible refine below_ext (w1 := ?_) ?_ ?_; rotate_left 2; (with_reducible assumption)) | (with_reducible refine Below.setCell ?_ ?_ _; rotate_left; ((try simp) <;> omega)) | (with_reducible refine Below.drew ?_) | (with_reducible refine below_drewN ?_ _) | fail))) (Nat.le_refl _) hU3
    have hN5 : Blk w4 w.heap.size 30 ord0.arr := hN4
    exact bodyPost_ret (results_ord2 rfl _ _ _ _ _ (by rfl) (by rfl) hN5 rfl) rfl ⟨rfl, below_upd (below_ext (below_ext hb0 hb1) hb3) (Nat.le_refl _) hU4⟩
  · have h2 : x.2.qty < by_ := by omega
    clear h
    go_enter Tryz.func55, Tryz.ntmps55
    go_wp2_with (first | (go_at_call 67; refine HF.out.mono ?_; rintro e w1 ⟨rfl, hb1⟩; have hN1 := hN0.ext hb1; clear hN0; have hT1 := Blk.new w1 30 #[.int .i64 0, .int .i64 0, .int .i64 0, .int .i64 0, .int .i64 0, .int .i64 0, .int .i64 0] _ rfl) | (((with_reducible show wpList _ _ _ (⟨_, .store 30 _ _, _, _, _, _⟩ :: _) _ _); refine wpList_store_blk (by rfl) 30 _ _ (by rfl) _ _ (by rfl) (by rfl) _ _ hT1 (by kernel_rfl) (by rfl) ?_ ?_; (next => first | (simp [Value.oneCell']; done) | (simp [Value.oneCell', Edt.cells]; done) | exact Are.ordArr_one _); intro w3 hT3 hU3); have cq4 : w3.cell? ⟨w1.heap.size, 4, none⟩ = some (.int .i64 x.2.qty) := hT3.cell 4; have hN3 := (hN1.alloc (.cells #[.int .i64 0, .int .i64 0, .int .i64 0, .int .i64 0, .int .i64 0, .int .i64 0, .int .i64 0] 30)).upd (by have := hN1.lt; omega) hU3) | ((with_reducible show wpList _ _ _ (⟨_, .load 30 _, _, _, _, _⟩ :: _) _ _); refine wpList_load_ho 30 _ (by rfl) (by rfl) ?_ (.pointer (some ⟨_, 0, none⟩)) (by rfl) ?_ _ Tryz.underlying30 rfl ?_ ?_; rotate_left; (next => (repeat (first | (with_reducible refine BlkAt.new _ _ _ _ ?_; ((try simp) <;> omega)) | (with_reducible assumption) | (with_reducible refine Blk.at (t := ?_) ?_; rotate_left; with_reducible assumption) | with_reducible refine BlkAt.alloc ?_ _ | with_reducible refine BlkAt.drew ?_ | (with_reducible refine BlkAt.setSame ?_ _ _) | (with_reducible refine BlkAt.setCell ?_ ?_ _; rotate_left; ((try simp) <;> omega)) | (with_reducible refine BlkAt.ext (w := ?_) ?_ ?_; rotate_left 2; (with_reducible assumption)) | fail))); (next => kernel_rfl)) | ((with_reducible show wpList _ _ _ (⟨_, .store 30 _ _, _, _, _, _⟩ :: _) _ _); refine wpList_store_blk (by rfl) 30 _ _ (by rfl) _ _ (by rfl) (by rfl) _ _ hN3 (by kernel_rfl) (by rfl) ?_ ?_; (next => first | (simp [Value.oneCell']; done) | (simp [Value.oneCell', Edt.cells]; done) | exact Are.ordArr_one _); intro w4 hN4 hU4) | fail)
    have hb3 : Below w1.heap.size w1 w3 := below_upd (by (repeat (first | with_reducible exact Below.refl _ _ | (with_reducible assumption) | (with_reducible refine below_alloc ?_ _) | (with_reducible refine below_ext (w1 := ?_) ?_ ?_; rotate_left 2; (with_reducible assumption)) | (with_reducible refine Below.setCell ?_ ?_ _; rotate_left; ((try simp) <;> omega)) | (with_reducible refine Below.drew ?_) | (with_reducible refine below_drewN ?_ _) | fail))) (Nat.le_refl _) hU3
    have hN5 : Blk w4 w.heap.size 30 ord0.arr := hN4
    exact bodyPost_ret (results_ord2 rfl _ _ _ _ _ (by rfl) (by rfl) hN5 rfl) rfl ⟨rfl, below_upd (below_ext (below_ext hb0 hb1) hb3) (Nat.le_refl _) hU4⟩
theorem reduce_all {A C : List Sl} {kk : Nat} {o : Ord} (B : Bs w c b N most k (A ++ (kk, o) :: C)) (hk : k < 1000) : Calls Tryz.prog 55 #[.pointer (some ⟨b, 0, none⟩), .int .i64 o.id, .int .i64 o.qty] w fun e w' => e = .returned (.tuple #[.agg (less o o.qty).arr, .int .i64 0]) ∧ ∃ c', Bs w' c' b N most (k + 1) (A ++ C) ∧ Cs c c' w w' := by
  have hbl := B.lt
  have h9b : ∀ q, w.heap.size ≤ q → c q = 9 := by
    obtain ⟨d, B, I⟩ := B
    exact B.out
  have hok : okO o := by
    obtain ⟨d, B, I⟩ := B
    exact I.ok (kk, o) (by simp)
  have h9 := h9b _ (Nat.le_refl _)
  have hq1 : ¬ o.qty < 1 := by have := hok.2.2.1; omega
  have hq2 : o.qty ≤ 4294967296 := by have := hok.2.2.1; omega
  have hq3 : ¬ o.qty < o.qty := by omega
  have hN0 : Blk (w.alloc (.cells #[.int .i64 0, .int .i64 0, .int .i64 0, .int .i64 0, .int .i64 0, .int .i64 0, .int .i64 0] 30)) w.heap.size 30 #[.int .i64 0, .int .i64 0, .int .i64 0, .int .i64 0, .int .i64 0, .int .i64 0, .int .i64 0] := Blk.new _ _ _ _ rfl
  have hb0 : Below w.heap.size w (w.alloc (.cells #[.int .i64 0, .int .i64 0, .int .i64 0, .int .i64 0, .int .i64 0, .int .i64 0, .int .i64 0] 30)) := by (repeat (first | with_reducible exact Below.refl _ _ | (with_reducible assumption) | (with_reducible refine below_alloc ?_ _) | (with_reducible refine below_ext (w1 := ?_) ?_ ?_; rotate_left 2; (with_reducible assumption)) | (with_reducible refine Below.setCell ?_ ?_ _; rotate_left; ((try simp) <;> omega)) | (with_reducible refine Below.drew ?_) | (with_reducible refine below_drewN ?_ _) | fail))
  have HF := Lib.hid (find_yes (B.ext hb0) (x := (kk, o)) (by simp))
  have HB := Lib.hid B
  clear B hok
  go_enter Tryz.func55, Tryz.ntmps55
  go_wp2_with (first | (go_at_call 67; refine HF.out.mono ?_; rintro e w1 ⟨rfl, hb1⟩; have hN1 := hN0.ext hb1; clear hN0; have hT1 := Blk.new w1 30 #[.int .i64 0, .int .i64 0, .int .i64 0, .int .i64 0, .int .i64 0, .int .i64 0, .int .i64 0] _ rfl) | (((with_reducible show wpList _ _ _ (⟨_, .store 30 _ _, _, _, _, _⟩ :: _) _ _); refine wpList_store_blk (by rfl) 30 _ _ (by rfl) _ _ (by rfl) (by rfl) _ _ hT1 (by kernel_rfl) (by rfl) ?_ ?_; (next => first | (simp [Value.oneCell']; done) | (simp [Value.oneCell', Edt.cells]; done) | exact Are.ordArr_one _); intro w3 hT3 hU3); have cq4 : w3.cell? ⟨w1.heap.size, 4, none⟩ = some (.int .i64 o.qty) := hT3.cell 4; have hf4 : w3.frozen? ⟨w1.heap.size, 4, none⟩ = false := hT3.frozen 4; have hne : w.heap.size ≠ w1.heap.size := (by have := hN1.lt; omega); have hle : w.heap.size ≤ w1.heap.size := (by have := hN1.lt; omega); have hN5 := Lib.hid (Blk.upd (g' := w1.heap.size) ((hN1.alloc (.cells #[.int .i64 0, .int .i64 0, .int .i64 0, .int .i64 0, .int .i64 0, .int .i64 0, .int .i64 0] 30)).upd hne hU3) hne (Upd.setCell w3 ⟨w1.heap.size, 4, none⟩ (.int .i64 0))); have hT5 : Blk (w3.setCell ⟨w1.heap.size, 4, none⟩ (.int .i64 0)) w1.heap.size 30 (less o o.qty).arr := (by rw [show (less o o.qty).arr = o.arr.setIfInBounds 4 (.int .i64 0) from (by simp [less, Ord.arr, Ord.cells])]; exact hT3.setCell 4 _); have hb3 : Below w1.heap.size w1 w3 := below_upd (by (repeat (first | with_reducible exact Below.refl _ _ | (with_reducible assumption) | (with_reducible refine below_alloc ?_ _) | (with_reducible refine below_ext (w1 := ?_) ?_ ?_; rotate_left 2; (with_reducible assumption)) | (with_reducible refine Below.setCell ?_ ?_ _; rotate_left; ((try simp) <;> omega)) | (with_reducible refine Below.drew ?_) | (with_reducible refine below_drewN ?_ _) | fail))) (Nat.le_refl _) hU3; have hb05 : Below w.heap.size w (w3.setCell ⟨w1.heap.size, 4, none⟩ (.int .i64 0)) := below_upd (g := w1.heap.size) (below_ext (below_ext hb0 hb1) hb3) hle (Upd.setCell w3 ⟨w1.heap.size, 4, none⟩ (.int .i64 0)); have HG := Lib.hid (gone_any (HB.out.ext hb05) (less o o.qty) ⟨rfl, rfl, rfl⟩ hk); clear hT3) | ((with_reducible show wpList _ _ _ (⟨_, .load 30 _, _, _, _, _⟩ :: _) _ _); refine wpList_load_ho 30 _ (by rfl) (by rfl) ?_ (.pointer (some ⟨_, 0, none⟩)) (by rfl) ?_ _ Tryz.underlying30 rfl ?_ ?_; rotate_left; (next => (repeat (first | (with_reducible refine BlkAt.new _ _ _ _ ?_; ((try simp) <;> omega)) | (with_reducible assumption) | (with_reducible refine Blk.at (t := ?_) ?_; rotate_left; with_reducible assumption) | with_reducible refine BlkAt.alloc ?_ _ | with_reducible refine BlkAt.drew ?_ | (with_reducible refine BlkAt.setSame ?_ _ _) | (with_reducible refine BlkAt.setCell ?_ ?_ _; rotate_left; ((try simp) <;> omega)) | (with_reducible refine BlkAt.ext (w := ?_) ?_ ?_; rotate_left 2; (with_reducible assumption)) | fail))); (next => kernel_rfl)) | (go_at_call 86; refine HG.out.mono ?_; rintro e w6 ⟨rfl, c6, B6, cs6⟩; have hT6 := cs6.blk hT5 (h9b _ (by have := hN1.lt; omega)); have hN6 := cs6.blk hN5.out h9; clear hT5 cq4 hf4) | ((with_reducible show wpList _ _ _ (⟨_, .store 30 _ _, _, _, _, _⟩ :: _) _ _); refine wpList_store_blk (by rfl) 30 _ _ (by rfl) _ _ (by rfl) (by rfl) _ _ hN6 (by kernel_rfl) (by rfl) ?_ ?_; (next => first | (simp [Value.oneCell']; done) | (simp [Value.oneCell', Edt.cells]; done) | exact Are.ordArr_one _); intro w7 hN7 hU7) | fail)
  have hN8 : Blk w7 w.heap.size 30 (less o o.qty).arr := hN7
  refine bodyPost_ret (results_ord2 rfl _ _ _ _ _ (by rfl) (by rfl) hN8 rfl) rfl ⟨rfl, c6, ?_, ?_⟩
  · exact B6.only9 (Only.upd9 hU7 ((cs6.old _ hN5.out.lt).trans h9))
  · exact ((Cs.of_below hb05).trans cs6).upd (Nat.le_refl _) hU7
theorem reduce_part {A C : List Sl} {kk : Nat} {o : Ord} (B : Bs w c b N most k (A ++ (kk, o) :: C)) {z : Int} (hz : 1 ≤ z ∧ z < o.qty) : Calls Tryz.prog 55 #[.pointer (some ⟨b, 0, none⟩), .int .i64 o.id, .int .i64 z] w fun e w' => e = .returned (.tuple #[.agg (less o z).arr, .int .i64 0]) ∧ ∃ c', Bs w' c' b N most k (A ++ (kk, less o z) :: C) ∧ Cs c c' w w' := by
  have hbl := B.lt
  have hN0 : Blk (w.alloc (.cells #[.int .i64 0, .int .i64 0, .int .i64 0, .int .i64 0, .int .i64 0, .int .i64 0, .int .i64 0] 30)) w.heap.size 30 #[.int .i64 0, .int .i64 0, .int .i64 0, .int .i64 0, .int .i64 0, .int .i64 0, .int .i64 0] := Blk.new _ _ _ _ rfl
  have hb0 : Below w.heap.size w (w.alloc (.cells #[.int .i64 0, .int .i64 0, .int .i64 0, .int .i64 0, .int .i64 0, .int .i64 0, .int .i64 0] 30)) := by (repeat (first | with_reducible exact Below.refl _ _ | (with_reducible assumption) | (with_reducible refine below_alloc ?_ _) | (with_reducible refine below_ext (w1 := ?_) ?_ ?_; rotate_left 2; (with_reducible assumption)) | (with_reducible refine Below.setCell ?_ ?_ _; rotate_left; ((try simp) <;> omega)) | (with_reducible refine Below.drew ?_) | (with_reducible refine below_drewN ?_ _) | fail))
  have HF := Lib.hid (find_yes (B.ext hb0) (x := (kk, o)) (by simp))
  obtain ⟨d, B, I⟩ := B
  have h9b := B.out
  have h9 := h9b _ (Nat.le_refl _)
  have hok : okO o := I.ok (kk, o) (by simp)
  have hq1 : ¬ z < 1 := by omega
  have hq2 : o.qty ≤ 4294967296 := by have := hok.2.2.1; omega
  have hq3 : ¬ o.qty < z := by omega
  have hq4 : ¬ o.qty - z = 0 := by omega
  obtain ⟨n, hsd, hn⟩ : ∃ n : Nat, o.side = (n : Int) ∧ n < 2 := ⟨o.side.toNat, by have := hok.1; omega, by have := hok.1; omega⟩
  obtain ⟨st, ls, hT, hA, hI⟩ := red_plan I hn hsd hz
  have HT := Lib.hid hT
  have HA := Lib.hid hA
  have HI := Lib.hid hI
  have HO := Lib.hid (fun W => of_yes (w := W) (b := b) (m := n) o.side hsd hn)
  have HB := Lib.hid B
  have hz1 : 1 ≤ z := hz.1
  have hz2 : z < o.qty := hz.2
  clear B hok I hT hA hI hsd hz
  have hn2 : n = 0 ∨ n = 1 := by omega
  rcases hn2 with rfl | rfl
  · go_enter Tryz.func55, Tryz.ntmps55
    go_wp2_with (first | (go_at_call 67; refine HF.out.mono ?_; rintro e w1 ⟨rfl, hb1⟩; have hN1 := hN0.ext hb1; clear hN0; have hT1 := Blk.new w1 30 #[.int .i64 0, .int .i64 0, .int .i64 0, .int .i64 0, .int .i64 0, .int .i64 0, .int .i64 0] _ rfl) | (((with_reducible show wpList _ _ _ (⟨_, .store 30 _ _, _, _, _, _⟩ :: _) _ _); refine wpList_store_blk (by rfl) 30 _ _ (by rfl) _ _ (by rfl) (by rfl) _ _ hT1 (by kernel_rfl) (by rfl) ?_ ?_; (next => first | (simp [Value.oneCell']; done) | (simp [Value.oneCell', Edt.cells]; done) | exact Are.ordArr_one _); intro w3 hT3 hU3); have cq4 : w3.cell? ⟨w1.heap.size, 4, none⟩ = some (.int .i64 o.qty) := hT3.cell 4; have hf4 : w3.frozen? ⟨w1.heap.size, 4, none⟩ = false := hT3.frozen 4; have hb3 : Below w1.heap.size w1 w3 := below_upd (by (repeat (first | with_reducible exact Below.refl _ _ | (with_reducible assumption) | (with_reducible refine below_alloc ?_ _) | (with_reducible refine below_ext (w1 := ?_) ?_ ?_; rotate_left 2; (with_reducible assumption)) | (with_reducible refine Below.setCell ?_ ?_ _; rotate_left; ((try simp) <;> omega)) | (with_reducible refine Below.drew ?_) | (with_reducible refine below_drewN ?_ _) | fail))) (Nat.le_refl _) hU3) | fail)
    have hne : w.heap.size ≠ w1.heap.size := by have := hN1.lt; omega
    have hle : w.heap.size ≤ w1.heap.size := by have := hN1.lt; omega
    have hN5 := Lib.hid (Blk.upd (g' := w1.heap.size) ((hN1.alloc (.cells #[.int .i64 0, .int .i64 0, .int .i64 0, .int .i64 0, .int .i64 0, .int .i64 0, .int .i64 0] 30)).upd hne hU3) hne (Upd.setCell w3 ⟨w1.heap.size, 4, none⟩ (.int .i64 (o.qty - z))))
    have hT5 : Blk (w3.setCell ⟨w1.heap.size, 4, none⟩ (.int .i64 (o.qty - z))) w1.heap.size 30 (less o z).arr := by
      rw [show (less o z).arr = o.arr.setIfInBounds 4 (.int .i64 (o.qty - z)) from by simp [less, Ord.arr, Ord.cells]]
      exact hT3.setCell 4 _
    have hb05 : Below w.heap.size w (w3.setCell ⟨w1.heap.size, 4, none⟩ (.int .i64 (o.qty - z))) := below_upd (g := w1.heap.size) (below_ext (below_ext hb0 hb1) hb3) hle (Upd.setCell w3 ⟨w1.heap.size, 4, none⟩ (.int .i64 (o.qty - z)))
    generalize w3.setCell ⟨w1.heap.size, 4, none⟩ (.int .i64 (o.qty - z)) = w5 at *
    have B5 := Lib.hid (HB.out.ext hb05)
    have HT5 := Lib.hid hT5
    have e1 : w5.cell? ⟨b, 1, none⟩ = some (.pointer (some ⟨d.l 0, 0, none⟩)) := B5.out.cells.2.1
    have e2 : w5.cell? ⟨w1.heap.size, 2, none⟩ = some (.int .i64 o.side) := hT5.cell 2
    have e3 : w5.cell? ⟨w1.heap.size, 3, none⟩ = some (.int .i64 o.price) := hT5.cell 3
    have hbl5 := B5.out.lt
    have htl5 := hT5.lt
    clear hT5 hT3 cq4 hf4 hU3
    refine wp_region_below_tail 10 (by kernel_rfl) (by kernel_rfl) ?_
    simp only [List.take_succ_cons, List.take_zero, List.drop_succ_cons, List.drop_zero]
    repeat (first | go_big_quiet_skip | (go_big_quiet_want; go_big_quiet_op; go_big_quiet_on) | (refine q_load_fld (by rfl) _ _ (by rfl) (fun _ h => h) _ _ (by rfl) ?_ ?_ ?_ ?_ ?_ ?_; rotate_left; (next => (repeat (first | (with_reducible refine BlkAt.new _ _ _ _ ?_; ((try simp) <;> omega)) | (with_reducible assumption) | (with_reducible refine Blk.at (t := ?_) ?_; rotate_left; with_reducible assumption) | with_reducible refine BlkAt.alloc ?_ _ | with_reducible refine BlkAt.drew ?_ | (with_reducible refine BlkAt.setSame ?_ _ _) | (with_reducible refine BlkAt.setCell ?_ ?_ _; rotate_left; ((try simp) <;> omega)) | (with_reducible refine BlkAt.ext (w := ?_) ?_ ?_; rotate_left 2; (with_reducible assumption)) | fail))); rotate_left; (next => first | (simp only [go_sem]; rfl) | rfl); (next => kernel_rfl); (try simp only [Act.put, List.setIfInBounds_toArray, List.set_cons_zero, List.set_cons_succ])) | (refine q_rem (by rfl) _ _ _ _ (by rfl) _ _ (by rfl) (by rfl) (by kernel_rfl) (by kernel_rfl) ?_ ?_; (next => omega); (try simp only [Act.put, List.setIfInBounds_toArray, List.set_cons_zero, List.set_cons_succ])) | (refine q_step_ex (by rfl) ?_; apply Exists.intro; refine ⟨fun W hW => ?_, ?_⟩; (next => (have hWc := fun (b o : Nat) (h : b < _) => (Ext.out hW).cell (p := ⟨b, o, none⟩) h); (try have hLK := HLK.out W (Ext.out hW)); go_simp; first | rfl | (go_at_call 56; refine (HO.out _).mono ?_; rintro e w'' ⟨rfl, rfl⟩; exact ⟨rfl, hW⟩) | fail); (try simp only [Act.put, List.setIfInBounds_toArray, List.set_cons_zero, List.set_cons_succ])) | fail)
    refine wpQuiet_nil ?_
    intro w6 hb6
    go_wp2_with (first | (go_at_call 87; refine (HT.out _ _ _ _ _ (B5.out.ext hb6)).mono ?_; rintro e w7 ⟨y, rfl, v, c7, B7, cs7⟩) | fail)
    have cs57 : Cs c c7 w5 w7 := (Cs.of_below hb6).trans cs7
    have hT7 := cs57.blk HT5.out (h9b _ hle)
    have B7' := Lib.hid B7
    have f0 : w7.cell? ⟨b, 0, none⟩ = some (.pointer (some ⟨d.a, 0, none⟩)) := B7.cells.1
    have hbl7 := B7.lt
    have htl7 := hT7.lt
    clear e1 e2 e3 B5 B7 HT HO
    refine wp_region_below_tail 6 (by kernel_rfl) (by kernel_rfl) ?_
    simp only [List.take_succ_cons, List.take_zero, List.drop_succ_cons, List.drop_zero]
    repeat (first | go_big_quiet_skip | (go_big_quiet_want; go_big_quiet_op; go_big_quiet_on) | (refine q_load_blk (by rfl) 30 _ (by rfl) ?_ (.pointer (some ⟨_, 0, none⟩)) (by rfl) ?_ _ (fun _ h => h) Tryz.underlying30 rfl ?_ ?_; rotate_left; (next => (repeat (first | (with_reducible refine BlkAt.new _ _ _ _ ?_; ((try simp) <;> omega)) | (with_reducible assumption) | (with_reducible refine Blk.at (t := ?_) ?_; rotate_left; with_reducible assumption) | with_reducible refine BlkAt.alloc ?_ _ | with_reducible refine BlkAt.drew ?_ | (with_reducible refine BlkAt.setSame ?_ _ _) | (with_reducible refine BlkAt.setCell ?_ ?_ _; rotate_left; ((try simp) <;> omega)) | (with_reducible refine BlkAt.ext (w := ?_) ?_ ?_; rotate_left 2; (with_reducible assumption)) | fail))); (next => kernel_rfl); (try simp only [Act.put, List.setIfInBounds_toArray, List.set_cons_zero, List.set_cons_succ])) | (refine q_load_fld (by rfl) _ _ (by rfl) (fun _ h => h) _ _ (by rfl) ?_ ?_ ?_ ?_ ?_ ?_; rotate_left; (next => (repeat (first | (with_reducible refine BlkAt.new _ _ _ _ ?_; ((try simp) <;> omega)) | (with_reducible assumption) | (with_reducible refine Blk.at (t := ?_) ?_; rotate_left; with_reducible assumption) | with_reducible refine BlkAt.alloc ?_ _ | with_reducible refine BlkAt.drew ?_ | (with_reducible refine BlkAt.setSame ?_ _ _) | (with_reducible refine BlkAt.setCell ?_ ?_ _; rotate_left; ((try simp) <;> omega)) | (with_reducible refine BlkAt.ext (w := ?_) ?_ ?_; rotate_left 2; (with_reducible assumption)) | fail))); rotate_left; (next => first | (simp only [go_sem]; rfl) | rfl); (next => kernel_rfl); (try simp only [Act.put, List.setIfInBounds_toArray, List.set_cons_zero, List.set_cons_succ])) | (refine q_rem (by rfl) _ _ _ _ (by rfl) _ _ (by rfl) (by rfl) (by kernel_rfl) (by kernel_rfl) ?_ ?_; (next => omega); (try simp only [Act.put, List.setIfInBounds_toArray, List.set_cons_zero, List.set_cons_succ])) | (refine q_step_ex (by rfl) ?_; apply Exists.intro; refine ⟨fun W hW => ?_, ?_⟩; (next => (have hWc := fun (b o : Nat) (h : b < _) => (Ext.out hW).cell (p := ⟨b, o, none⟩) h); (try have hLK := HLK.out W (Ext.out hW)); go_simp; first | rfl | fail | fail); (try simp only [Act.put, List.setIfInBounds_toArray, List.set_cons_zero, List.set_cons_succ])) | fail)
    refine wpQuiet_nil ?_
    intro w8 hb8
    go_wp2_with (first | (go_at_call 88; refine (HA.out _ _ _ _ _ v (B7'.out.ext hb8)).mono ?_; rintro e w9 ⟨rfl, B9, cs9⟩; have cs59 := cs57.trans ((Cs.of_below hb8).trans cs9); have hT9 := cs59.blk HT5.out (h9b _ hle); have hN9 := cs59.blk hN5.out h9; clear hT7 f0) | ((with_reducible show wpList _ _ _ (⟨_, .load 30 _, _, _, _, _⟩ :: _) _ _); refine wpList_load_ho 30 _ (by rfl) (by rfl) ?_ (.pointer (some ⟨_, 0, none⟩)) (by rfl) ?_ _ Tryz.underlying30 rfl ?_ ?_; rotate_left; (next => (repeat (first | (with_reducible refine BlkAt.new _ _ _ _ ?_; ((try simp) <;> omega)) | (with_reducible assumption) | (with_reducible refine Blk.at (t := ?_) ?_; rotate_left; with_reducible assumption) | with_reducible refine BlkAt.alloc ?_ _ | with_reducible refine BlkAt.drew ?_ | (with_reducible refine BlkAt.setSame ?_ _ _) | (with_reducible refine BlkAt.setCell ?_ ?_ _; rotate_left; ((try simp) <;> omega)) | (with_reducible refine BlkAt.ext (w := ?_) ?_ ?_; rotate_left 2; (with_reducible assumption)) | fail))); (next => kernel_rfl)) | ((with_reducible show wpList _ _ _ (⟨_, .store 30 _ _, _, _, _, _⟩ :: _) _ _); refine wpList_store_blk (by rfl) 30 _ _ (by rfl) _ _ (by rfl) (by rfl) _ _ hN9 (by kernel_rfl) (by rfl) ?_ ?_; (next => first | (simp [Value.oneCell']; done) | (simp [Value.oneCell', Edt.cells]; done) | exact Are.ordArr_one _); intro w10 hN10 hU10) | fail)
    have hN11 : Blk w10 w.heap.size 30 (less o z).arr := hN10
    refine bodyPost_ret (results_ord2 rfl _ _ _ _ _ (by rfl) (by rfl) hN11 rfl) rfl ⟨rfl, c7, ⟨_, ?_, HI.out v⟩, ?_⟩
    · rw [rr_less]
      exact B9.only9 (Only.upd9 hU10 ((cs59.old _ hN5.out.lt).trans h9))
    · exact ((Cs.of_below hb05).trans cs59).upd (Nat.le_refl _) hU10
  · go_enter Tryz.func55, Tryz.ntmps55
    go_wp2_with (first | (go_at_call 67; refine HF.out.mono ?_; rintro e w1 ⟨rfl, hb1⟩; have hN1 := hN0.ext hb1; clear hN0; have hT1 := Blk.new w1 30 #[.int .i64 0, .int .i64 0, .int .i64 0, .int .i64 0, .int .i64 0, .int .i64 0, .int .i64 0] _ rfl) | (((with_reducible show wpList _ _ _ (⟨_, .store 30 _ _, _, _, _, _⟩ :: _) _ _); refine wpList_store_blk (by rfl) 30 _ _ (by rfl) _ _ (by rfl) (by rfl) _ _ hT1 (by kernel_rfl) (by rfl) ?_ ?_; (next => first | (simp [Value.oneCell']; done) | (simp [Value.oneCell', Edt.cells]; done) | exact Are.ordArr_one _); intro w3 hT3 hU3); have cq4 : w3.cell? ⟨w1.heap.size, 4, none⟩ = some (.int .i64 o.qty) := hT3.cell 4; have hf4 : w3.frozen? ⟨w1.heap.size, 4, none⟩ = false := hT3.frozen 4; have hb3 : Below w1.heap.size w1 w3 := below_upd (by (repeat (first | with_reducible exact Below.refl _ _ | (with_reducible assumption) | (with_reducible refine below_alloc ?_ _) | (with_reducible refine below_ext (w1 := ?_) ?_ ?_; rotate_left 2; (with_reducible assumption)) | (with_reducible refine Below.setCell ?_ ?_ _; rotate_left; ((try simp) <;> omega)) | (with_reducible refine Below.drew ?_) | (with_reducible refine below_drewN ?_ _) | fail))) (Nat.le_refl _) hU3) | fail)
    have hne : w.heap.size ≠ w1.heap.size := by have := hN1.lt; omega
    have hle : w.heap.size ≤ w1.heap.size := by have := hN1.lt; omega
    have hN5 := Lib.hid (Blk.upd (g' := w1.heap.size) ((hN1.alloc (.cells #[.int .i64 0, .int .i64 0, .int .i64 0, .int .i64 0, .int .i64 0, .int .i64 0, .int .i64 0] 30)).upd hne hU3) hne (Upd.setCell w3 ⟨w1.heap.size, 4, none⟩ (.int .i64 (o.qty - z))))
    have hT5 : Blk (w3.setCell ⟨w1.heap.size, 4, none⟩ (.int .i64 (o.qty - z))) w1.heap.size 30 (less o z).arr := by
      rw [show (less o z).arr = o.arr.setIfInBounds 4 (.int .i64 (o.qty - z)) from by simp [less, Ord.arr, Ord.cells]]
      exact hT3.setCell 4 _
    have hb05 : Below w.heap.size w (w3.setCell ⟨w1.heap.size, 4, none⟩ (.int .i64 (o.qty - z))) := below_upd (g := w1.heap.size) (below_ext (below_ext hb0 hb1) hb3) hle (Upd.setCell w3 ⟨w1.heap.size, 4, none⟩ (.int .i64 (o.qty - z)))
    generalize w3.setCell ⟨w1.heap.size, 4, none⟩ (.int .i64 (o.qty - z)) = w5 at *
    have B5 := Lib.hid (HB.out.ext hb05)
    have HT5 := Lib.hid hT5
    have e1 : w5.cell? ⟨b, 3, none⟩ = some (.pointer (some ⟨d.l 1, 0, none⟩)) := B5.out.cells.2.2.2.1
    have e2 : w5.cell? ⟨w1.heap.size, 2, none⟩ = some (.int .i64 o.side) := hT5.cell 2
    have e3 : w5.cell? ⟨w1.heap.size, 3, none⟩ = some (.int .i64 o.price) := hT5.cell 3
    have hbl5 := B5.out.lt
    have htl5 := hT5.lt
    clear hT5 hT3 cq4 hf4 hU3
    refine wp_region_below_tail 10 (by kernel_rfl) (by kernel_rfl) ?_
    simp only [List.take_succ_cons, List.take_zero, List.drop_succ_cons, List.drop_zero]
    repeat (first | go_big_quiet_skip | (go_big_quiet_want; go_big_quiet_op; go_big_quiet_on) | (refine q_load_fld (by rfl) _ _ (by rfl) (fun _ h => h) _ _ (by rfl) ?_ ?_ ?_ ?_ ?_ ?_; rotate_left; (next => (repeat (first | (with_reducible refine BlkAt.new _ _ _ _ ?_; ((try simp) <;> omega)) | (with_reducible assumption) | (with_reducible refine Blk.at (t := ?_) ?_; rotate_left; with_reducible assumption) | with_reducible refine BlkAt.alloc ?_ _ | with_reducible refine BlkAt.drew ?_ | (with_reducible refine BlkAt.setSame ?_ _ _) | (with_reducible refine BlkAt.setCell ?_ ?_ _; rotate_left; ((try simp) <;> omega)) | (with_reducible refine BlkAt.ext (w := ?_) ?_ ?_; rotate_left 2; (with_reducible assumption)) | fail))); rotate_left; (next => first | (simp only [go_sem]; rfl) | rfl); (next => kernel_rfl); (try simp only [Act.put, List.setIfInBounds_toArray, List.set_cons_zero, List.set_cons_succ])) | (refine q_rem (by rfl) _ _ _ _ (by rfl) _ _ (by rfl) (by rfl) (by kernel_rfl) (by kernel_rfl) ?_ ?_; (next => omega); (try simp only [Act.put, List.setIfInBounds_toArray, List.set_cons_zero, List.set_cons_succ])) | (refine q_step_ex (by rfl) ?_; apply Exists.intro; refine ⟨fun W hW => ?_, ?_⟩; (next => (have hWc := fun (b o : Nat) (h : b < _) => (Ext.out hW).cell (p := ⟨b, o, none⟩) h); (try have hLK := HLK.out W (Ext.out hW)); go_simp; first | rfl | (go_at_call 56; refine (HO.out _).mono ?_; rintro e w'' ⟨rfl, rfl⟩; exact ⟨rfl, hW⟩) | fail); (try simp only [Act.put, List.setIfInBounds_toArray, List.set_cons_zero, List.set_cons_succ])) | fail)
    refine wpQuiet_nil ?_
    intro w6 hb6
    go_wp2_with (first | (go_at_call 87; refine (HT.out _ _ _ _ _ (B5.out.ext hb6)).mono ?_; rintro e w7 ⟨y, rfl, v, c7, B7, cs7⟩) | fail)
    have cs57 : Cs c c7 w5 w7 := (Cs.of_below hb6).trans cs7
    have hT7 := cs57.blk HT5.out (h9b _ hle)
    have B7' := Lib.hid B7
    have f0 : w7.cell? ⟨b, 0, none⟩ = some (.pointer (some ⟨d.a, 0, none⟩)) := B7.cells.1
    have hbl7 := B7.lt
    have htl7 := hT7.lt
    clear e1 e2 e3 B5 B7 HT HO
    refine wp_region_below_tail 6 (by kernel_rfl) (by kernel_rfl) ?_
    simp only [List.take_succ_cons, List.take_zero, List.drop_succ_cons, List.drop_zero]
    repeat (first | go_big_quiet_skip | (go_big_quiet_want; go_big_quiet_op; go_big_quiet_on) | (refine q_load_blk (by rfl) 30 _ (by rfl) ?_ (.pointer (some ⟨_, 0, none⟩)) (by rfl) ?_ _ (fun _ h => h) Tryz.underlying30 rfl ?_ ?_; rotate_left; (next => (repeat (first | (with_reducible refine BlkAt.new _ _ _ _ ?_; ((try simp) <;> omega)) | (with_reducible assumption) | (with_reducible refine Blk.at (t := ?_) ?_; rotate_left; with_reducible assumption) | with_reducible refine BlkAt.alloc ?_ _ | with_reducible refine BlkAt.drew ?_ | (with_reducible refine BlkAt.setSame ?_ _ _) | (with_reducible refine BlkAt.setCell ?_ ?_ _; rotate_left; ((try simp) <;> omega)) | (with_reducible refine BlkAt.ext (w := ?_) ?_ ?_; rotate_left 2; (with_reducible assumption)) | fail))); (next => kernel_rfl); (try simp only [Act.put, List.setIfInBounds_toArray, List.set_cons_zero, List.set_cons_succ])) | (refine q_load_fld (by rfl) _ _ (by rfl) (fun _ h => h) _ _ (by rfl) ?_ ?_ ?_ ?_ ?_ ?_; rotate_left; (next => (repeat (first | (with_reducible refine BlkAt.new _ _ _ _ ?_; ((try simp) <;> omega)) | (with_reducible assumption) | (with_reducible refine Blk.at (t := ?_) ?_; rotate_left; with_reducible assumption) | with_reducible refine BlkAt.alloc ?_ _ | with_reducible refine BlkAt.drew ?_ | (with_reducible refine BlkAt.setSame ?_ _ _) | (with_reducible refine BlkAt.setCell ?_ ?_ _; rotate_left; ((try simp) <;> omega)) | (with_reducible refine BlkAt.ext (w := ?_) ?_ ?_; rotate_left 2; (with_reducible assumption)) | fail))); rotate_left; (next => first | (simp only [go_sem]; rfl) | rfl); (next => kernel_rfl); (try simp only [Act.put, List.setIfInBounds_toArray, List.set_cons_zero, List.set_cons_succ])) | (refine q_rem (by rfl) _ _ _ _ (by rfl) _ _ (by rfl) (by rfl) (by kernel_rfl) (by kernel_rfl) ?_ ?_; (next => omega); (try simp only [Act.put, List.setIfInBounds_toArray, List.set_cons_zero, List.set_cons_succ])) | (refine q_step_ex (by rfl) ?_; apply Exists.intro; refine ⟨fun W hW => ?_, ?_⟩; (next => (have hWc := fun (b o : Nat) (h : b < _) => (Ext.out hW).cell (p := ⟨b, o, none⟩) h); (try have hLK := HLK.out W (Ext.out hW)); go_simp; first | rfl | fail | fail); (try simp only [Act.put, List.setIfInBounds_toArray, List.set_cons_zero, List.set_cons_succ])) | fail)
    refine wpQuiet_nil ?_
    intro w8 hb8
    go_wp2_with (first | (go_at_call 88; refine (HA.out _ _ _ _ _ v (B7'.out.ext hb8)).mono ?_; rintro e w9 ⟨rfl, B9, cs9⟩; have cs59 := cs57.trans ((Cs.of_below hb8).trans cs9); have hT9 := cs59.blk HT5.out (h9b _ hle); have hN9 := cs59.blk hN5.out h9; clear hT7 f0) | ((with_reducible show wpList _ _ _ (⟨_, .load 30 _, _, _, _, _⟩ :: _) _ _); refine wpList_load_ho 30 _ (by rfl) (by rfl) ?_ (.pointer (some ⟨_, 0, none⟩)) (by rfl) ?_ _ Tryz.underlying30 rfl ?_ ?_; rotate_left; (next => (repeat (first | (with_reducible refine BlkAt.new _ _ _ _ ?_; ((try simp) <;> omega)) | (with_reducible assumption) | (with_reducible refine Blk.at (t := ?_) ?_; rotate_left; with_reducible assumption) | with_reducible refine BlkAt.alloc ?_ _ | with_reducible refine BlkAt.drew ?_ | (with_reducible refine BlkAt.setSame ?_ _ _) | (with_reducible refine BlkAt.setCell ?_ ?_ _; rotate_left; ((try simp) <;> omega)) | (with_reducible refine BlkAt.ext (w := ?_) ?_ ?_; rotate_left 2; (with_reducible assumption)) | fail))); (next => kernel_rfl)) | ((with_reducible show wpList _ _ _ (⟨_, .store 30 _ _, _, _, _, _⟩ :: _) _ _); refine wpList_store_blk (by rfl) 30 _ _ (by rfl) _ _ (by rfl) (by rfl) _ _ hN9 (by kernel_rfl) (by rfl) ?_ ?_; (next => first | (simp [Value.oneCell']; done) | (simp [Value.oneCell', Edt.cells]; done) | exact Are.ordArr_one _); intro w10 hN10 hU10) | fail)
    have hN11 : Blk w10 w.heap.size 30 (less o z).arr := hN10
    refine bodyPost_ret (results_ord2 rfl _ _ _ _ _ (by rfl) (by rfl) hN11 rfl) rfl ⟨rfl, c7, ⟨_, ?_, HI.out v⟩, ?_⟩
    · rw [rr_less]
      exact B9.only9 (Only.upd9 hU10 ((cs59.old _ hN5.out.lt).trans h9))
    · exact ((Cs.of_below hb05).trans cs59).upd (Nat.le_refl _) hU10
/-- What is left of a list when something of an order is taken. -/
def rdI (id z : Int) (os : List Ord) : List Ord := os.map fun o => if o.id = id then less o z else o
def redF (id z : Int) (os : List Ord) : Int × Ord := match fndI id os with
  | none => (5, ord0)
  | some o => if z < 1 ∨ o.qty < z then (9, ord0) else (0, less o z)
def redO (id z : Int) (os : List Ord) : List Ord := match fndI id os with
  | none => os
  | some o => if z < 1 ∨ o.qty < z then os else if z = o.qty then rmI id os else rdI id z os
theorem rd_mid {A C : List Sl} {kk : Nat} {o : Ord} (z : Int) (h : ((A ++ (kk, o) :: C).map (·.2.id)).Nodup) : rdI o.id z (osOf (A ++ (kk, o) :: C)) = osOf (A ++ (kk, less o z) :: C) := by
  rw [List.map_append, List.map_cons, List.nodup_append, List.nodup_cons] at h
  obtain ⟨_, ⟨h2, _⟩, h4⟩ := h
  have keep : ∀ l : List Sl, (∀ x ∈ l, x.2.id ≠ o.id) → rdI o.id z (osOf l) = osOf l := fun l hl => by
    unfold rdI osOf
    rw [List.map_map]
    refine List.map_congr_left (fun x hx => ?_)
    simp [hl x hx]
  have hA := keep A (fun x hx e => h4 _ (List.mem_map.2 ⟨x, hx, rfl⟩) _ (by simp) e)
  have hC := keep C (fun x hx e => h2 (List.mem_map.2 ⟨x, hx, e⟩))
  have e1 : osOf (A ++ (kk, o) :: C) = osOf A ++ o :: osOf C := by simp [osOf]
  have e2 : osOf (A ++ (kk, less o z) :: C) = osOf A ++ less o z :: osOf C := by simp [osOf]
  rw [e1, e2]
  unfold rdI at *
  rw [List.map_append, hA, List.map_cons, hC]
  simp
theorem reduce_any (B : Bs w c b N most k ss) {id : Int} (z : Int) (hid : Wf id) (hk : k < 1000) : Calls Tryz.prog 55 #[.pointer (some ⟨b, 0, none⟩), .int .i64 id, .int .i64 z] w fun e w' => e = .returned (.tuple #[.agg (redF id z (osOf ss)).2.arr, .int .i64 (redF id z (osOf ss)).1]) ∧ ∃ c' ss', Bs w' c' b N most (k + 1) ss' ∧ osOf ss' = redO id z (osOf ss) ∧ Cs c c' w w' := by
  unfold redF redO
  rcases fnd_cases ss id with ⟨x, hx, rfl, h2⟩ | ⟨h1, h2⟩
  · rw [h2]
    by_cases hr : z < 1 ∨ x.2.qty < z
    · simp only [if_pos hr]
      refine (reduce_rng B hx z hr).mono ?_
      rintro e w' ⟨rfl, hb⟩
      exact ⟨rfl, c, ss, (B.ext hb).mono1 hk, rfl, Cs.of_below hb⟩
    · simp only [if_neg hr]
      obtain ⟨A, C, rfl⟩ := List.append_of_mem hx
      obtain ⟨kk, o⟩ := x
      have hids : ((A ++ (kk, o) :: C).map (·.2.id)).Nodup := by
        obtain ⟨d, B, I⟩ := B
        exact I.ids
      by_cases hq : z = o.qty
      · subst hq
        simp only [if_true]
        refine (reduce_all B hk).mono ?_
        rintro e w' ⟨rfl, c', h3, h4⟩
        exact ⟨rfl, c', _, h3, (rm_mid hids).symm, h4⟩
      · have hq' : ¬ z = ((kk, o) : Sl).2.qty := hq
        rw [if_neg hq']
        refine (reduce_part B (z := z) (by simp only at hr; omega)).mono ?_
        rintro e w' ⟨rfl, c', h3, h4⟩
        exact ⟨rfl, c', _, h3.mono1 hk, (rd_mid z hids).symm, h4⟩
  · rw [h2]
    refine (reduce_no B z hid h1).mono ?_
    rintro e w' ⟨rfl, hb⟩
    exact ⟨rfl, c, ss, (B.ext hb).mono1 hk, rfl, Cs.of_below hb⟩
end
end Bk
end Go.Proofs.YtbnappiaomiciaaGreat
namespace Go.Proofs.YtbnappiaomiciaaGreat
set_option linter.unusedVariables false
open Go.RowKit
namespace Bk
set_option maxHeartbeats 1000000
set_option maxRecDepth 10000
open Are (ord0)
open Idx (Wf)
theorem better_any (n x y : Int) (w : World) : Calls Tryz.prog 53 #[.int .i64 n, .int .i64 x, .int .i64 y] w fun e w' => e = .returned (.bool (bet n x y)) ∧ w = w' := by
  unfold bet
  by_cases h0 : n = 0
  · subst h0
    go_enter Tryz.func53, Tryz.ntmps53
    go_wp2_with fail
    go_ret
    exact ⟨by simp, rfl⟩
  · by_cases h1 : n = 1
    · subst h1
      go_enter Tryz.func53, Tryz.ntmps53
      go_wp2_with fail
      go_ret
      exact ⟨by simp, rfl⟩
    · have e0 : (n == 0) = false := by simpa using h0
      have e1 : (n == 1) = false := by simpa using h1
      go_enter Tryz.func53, Tryz.ntmps53
      go_wp2_with fail
      go_ret
      exact ⟨by simp [h0, h1], rfl⟩
theorem rbetter_any (n x y : Int) (w : World) : Calls Tryz.prog 100 #[.int .i64 n, .int .i64 x, .int .i64 y] w fun e w' => e = .returned (.bool (bet n x y)) ∧ w = w' := by
  unfold bet
  by_cases h0 : n = 0
  · subst h0
    by_cases h : y < x
    · go_enter Tryz.func100, Tryz.ntmps100
      go_wp2_with fail
      go_ret
      exact ⟨by simp [h], rfl⟩
    · go_enter Tryz.func100, Tryz.ntmps100
      go_wp2_with fail
      go_ret
      exact ⟨by simp [h], rfl⟩
  · have e0 : (n == 0) = false := by simpa using h0
    by_cases h1 : n = 1
    · subst h1
      go_enter Tryz.func100, Tryz.ntmps100
      go_wp2_with fail
      go_ret
      exact ⟨by simp, rfl⟩
    · have e1 : (n == 1) = false := by simpa using h1
      go_enter Tryz.func100, Tryz.ntmps100
      go_wp2_with fail
      go_ret
      exact ⟨by simp [h0, h1], rfl⟩
end Bk
end Go.Proofs.YtbnappiaomiciaaGreat
