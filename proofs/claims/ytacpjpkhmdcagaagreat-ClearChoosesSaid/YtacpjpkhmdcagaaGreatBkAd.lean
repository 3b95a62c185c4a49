/- This text proves what the four steps of Add do to a held book: on its arena, a ladder, its queues, and the index. It has no conditions but those that it states. -/
import Derived.Test.YtacpjpkhmdcagaaGreatBkH
namespace Go.Proofs.YtacpjpkhmdcagaaGreat
set_option linter.unusedVariables false
open Go.RowKit
namespace Bk
set_option maxHeartbeats 1000000
set_option maxRecDepth 10000
open Are (St Ar ord0 ordArr_one takeS)
open Lad (La LStep Fresh keyF keys keys_at stands_ex busy setU key_one low_free)
open Fif (Fq up up_same up_ne free)
open Idx (R3 Xq Wf)
def Bd.tk (d : Bd) (st : St) (fl : List Nat) : Bd := { d with st := st, fl := fl }
def Bd.pt (d : Bd) (n : Nat) (v : Value) (ls : List Lvl) (u : Nat → Nat) : Bd := { d with v := up d.v n v, ls := up d.ls n ls, u := up d.u n u }
def Bd.qu (d : Bd) (n : Nat) (l : Nat → List Nat) : Bd := { d with L := up d.L n l }
theorem si_slot {n : Int} {most : Nat} {xs : List Sl} {ls : List Lvl} {u : Nat → Nat} {L : Nat → List Nat} (S : SI n most xs ls u L) (j x : Nat) (h : x ∈ L j) : x ∈ xs.map (·.1) := by
  by_cases hj : (j : Int) ∈ ls.map (·.queue)
  · obtain ⟨l, hl, e⟩ := List.mem_map.1 hj
    have V := S.lv l hl
    have : l.queue.toNat = j := by omega
    have h2 := V.list
    rw [this] at h2
    rw [h2] at h
    obtain ⟨y, hy, rfl⟩ := List.mem_map.1 h
    exact List.mem_map.2 ⟨y, (List.mem_filter.1 hy).1, rfl⟩
  · rw [S.emp j hj] at h
    cases h
theorem sid_slot {n : Nat} {ss : List Sl} {x : Nat} (h : x ∈ (sid n ss).map (·.1)) : x ∈ ss.map (·.1) := by
  obtain ⟨y, hy, rfl⟩ := List.mem_map.1 h
  exact List.mem_map.2 ⟨y, (List.mem_filter.1 hy).1, rfl⟩
theorem sid_snoc (n : Nat) (ss : List Sl) (k : Nat) (o : Ord) : sid n (ss ++ [(k, o)]) = if o.side = (n : Int) then sid n ss ++ [(k, o)] else sid n ss := by
  unfold sid
  rw [List.filter_append]
  by_cases h : o.side = (n : Int) <;> simp [h]
theorem lv_bound {n : Nat} {most : Nat} {ss : List Sl} {ls : List Lvl} {u : Nat → Nat} {L : Nat → List Nat} (S : SI (n : Int) most (sid n ss) ls u L) (hok : ∀ x ∈ ss, okO x.2) (hlen : ss.length ≤ 500) {l : Lvl} (hl : l ∈ ls) : (0 ≤ l.qty ∧ l.qty ≤ 4294967296 * 500) ∧ 1 ≤ l.orders ∧ l.orders ≤ 500 := by
  have V := S.lv l hl
  have hm : ∀ x ∈ atp l.price (sid n ss), x ∈ ss := fun x hx => (List.mem_filter.1 (List.mem_filter.1 hx).1).1
  have h1 := sumq_nonneg (atp l.price (sid n ss)) (fun x hx => by have := (hok x (hm x hx)).2.2.1; omega)
  have h2 := sumq_le (atp l.price (sid n ss)) 4294967296 (fun x hx => by have := (hok x (hm x hx)).2.2.1; omega) (by omega)
  have h3 : (atp l.price (sid n ss)).length ≤ ss.length := Nat.le_trans (List.length_filter_le _ _) (List.length_filter_le _ _)
  have h4 := V.orders
  have h5 := V.some
  rw [V.qty]
  omega
theorem add_plan {N most : Nat} {ss : List Sl} {d : Bd} (I : Bi N most ss d) {n : Nat} (hn : n < 2) {o : Ord} (ho : okO o) (hsd : o.side = (n : Int)) (hid : ∀ x ∈ ss, x.2.id ≠ o.id) (hroom : roomO N most (n : Int) o.price (osOf ss) = true) :
    ∃ (kk qn : Nat) (st : St) (fl : List Nat) (ls : List Lvl) (u : Nat → Nat) (l : Nat → List Nat),
      (∀ (W : World) (c : Nat → Nat) (b k : Nat) (R : List R3), Bw W c b N most k d R → Calls Tryz.prog 49 #[.pointer (some ⟨d.a, 0, none⟩), .agg o.arr] W fun e w' => e = .returned (.tuple #[.int .i64 kk, .int .i64 0]) ∧ Bw w' c b N most k (d.tk st fl) R ∧ Cs c c W w') ∧
      (∀ (W : World) (c : Nat → Nat) (b k : Nat) (R : List R3), Bw W c b N most k (d.tk st fl) R → Calls Tryz.prog 50 #[.pointer (some ⟨d.l n, 0, none⟩), .int .i64 o.price, .int .i64 o.qty] W fun e w' => e = .returned (.tuple #[.int .i64 qn, .int .i64 0]) ∧ ∃ v c', Bw w' c' b N most k ((d.tk st fl).pt n v ls u) R ∧ Cs c c' W w') ∧
      (∀ (W : World) (c : Nat → Nat) (b k : Nat) (R : List R3) (v : Value), Bw W c b N most k ((d.tk st fl).pt n v ls u) R → Calls Tryz.prog 51 #[.pointer (some ⟨d.q n, 0, none⟩), .int .i64 qn, .int .i64 kk] W fun e w' => e = .returned (.bool true) ∧ Bw w' c b N most k (((d.tk st fl).pt n v ls u).qu n l) R ∧ Cs c c W w') ∧
      (∀ (W : World) (c : Nat → Nat) (b k : Nat) (v : Value), k < 1000 → Bw W c b N most k (((d.tk st fl).pt n v ls u).qu n l) (Rr ss) → Calls Tryz.prog 52 #[.pointer (some ⟨d.x, 0, none⟩), .agg #[.int .i64 0, .int .i64 o.id], .int .i64 kk] W fun e w' => e = .returned (.bool true) ∧ Bw w' c b N most (k + 1) (((d.tk st fl).pt n v ls u).qu n l) (Rr (ss ++ [(kk, o)])) ∧ Cs c c W w') ∧
      (∀ v, Bi N most (ss ++ [(kk, o)]) (((d.tk st fl).pt n v ls u).qu n l)) := by
  have hlim := I.lim
  have S := I.si n hn
  have hlen := ai_len I.ai
  unfold roomO at hroom
  rw [Bool.and_eq_true, decide_eq_true_eq] at hroom
  obtain ⟨hfit, hlt⟩ := hroom
  have hlo : (osOf ss).length = ss.length := List.length_map _
  rw [hlo] at hlt
  obtain ⟨kk, t, hfl⟩ := ai_room I.ai hlt
  have A := I.ai
  rw [hfl] at A
  have hch := A.chain
  have hfree : d.st.free = (kk : Int) := hch.1
  have hkN : kk < N ∧ kk ∉ ss.map (·.1) := (A.fre kk).1 (by simp)
  have hused := A.used
  have hT : ∀ (W : World) (c : Nat → Nat) (b k : Nat) (R : List R3), Bw W c b N most k d R → Calls Tryz.prog 49 #[.pointer (some ⟨d.a, 0, none⟩), .agg o.arr] W fun e w' => e = .returned (.tuple #[.int .i64 kk, .int .i64 0]) ∧ Bw w' c b N most k (d.tk (takeS d.st kk o) t) R ∧ Cs c c W w' := fun W c b k R BW => by
    refine (Are.take_any d.a d.st kk o W BW.ar hfree (by omega) (by omega)).mono ?_
    rintro e w' ⟨rfl, hA, hB⟩
    obtain ⟨h1, h2⟩ := BW.stepA hB hA (fl' := t)
    exact ⟨rfl, h1, h2⟩
  have hAI := ai_take A o
  have hnq : ∀ j, kk ∉ d.L n j := fun j h => hkN.2 (sid_slot (si_slot S j kk h))
  have hX : ∀ (D : Bd) (W : World) (c : Nat → Nat) (b k : Nat), k < 1000 → Bw W c b N most k D (Rr ss) → Calls Tryz.prog 52 #[.pointer (some ⟨D.x, 0, none⟩), .agg #[.int .i64 0, .int .i64 o.id], .int .i64 kk] W fun e w' => e = .returned (.bool true) ∧ Bw w' c b N most (k + 1) D (Rr (ss ++ [(kk, o)])) ∧ Cs c c W w' := fun D W c b k hk BW => by
    refine (Idx.put_new BW.ix (s := 0) (i := o.id) (v := (kk : Int)) wf0 ho.2.2.2 (WalkArith.wf_i64 ⟨by omega, by omega⟩) (look_no hid) hk).mono ?_
    rintro e w' ⟨rfl, hX, hB⟩
    obtain ⟨h1, h2⟩ := BW.stepX hB hX
    refine ⟨rfl, ?_, h2⟩
    have : Rr (ss ++ [(kk, o)]) = Rr ss ++ [⟨0, o.id, (kk : Int)⟩] := by simp [Rr]
    rw [this]
    exact h1
  have hok2 : ∀ x ∈ ss ++ [(kk, o)], okO x.2 := fun x hx => by
    rcases List.mem_append.1 hx with h | h
    · exact I.ok x h
    · rw [List.mem_singleton.1 h]; exact ho
  have hids2 : ((ss ++ [(kk, o)]).map (·.2.id)).Nodup := by
    rw [List.map_append, List.nodup_append]
    refine ⟨I.ids, by simp, fun a ha b hb e => ?_⟩
    obtain ⟨x, hx, rfl⟩ := List.mem_map.1 ha
    simp only [List.map_cons, List.map_nil, List.mem_singleton] at hb
    exact hid x hx (e.trans hb)
  have hBi : ∀ (v : Value) (ls : List Lvl) (u : Nat → Nat) (l : Nat → List Nat), SI (n : Int) most (sid n ss ++ [(kk, o)]) ls u l → Bi N most (ss ++ [(kk, o)]) (((d.tk (takeS d.st kk o) t).pt n v ls u).qu n l) := fun v ls u l hS =>
    ⟨hAI, fun m hm => by
      show SI (m : Int) most (sid m (ss ++ [(kk, o)])) (up d.ls n ls m) (up d.u n u m) (up d.L n l m)
      rw [sid_snoc]
      by_cases e : m = n
      · subst e
        rw [up_same, up_same, up_same, if_pos hsd]
        exact hS
      · rw [up_ne _ _ e, up_ne _ _ e, up_ne _ _ e, if_neg (by rw [hsd]; omega)]
        exact I.si m hm, hok2, hids2, hlim⟩
  have hQ : ∀ (qn : Nat), qn < most → ∀ (ls : List Lvl) (u : Nat → Nat) (W : World) (c : Nat → Nat) (b k : Nat) (R : List R3) (v : Value), Bw W c b N most k ((d.tk (takeS d.st kk o) t).pt n v ls u) R → Calls Tryz.prog 51 #[.pointer (some ⟨d.q n, 0, none⟩), .int .i64 qn, .int .i64 kk] W fun e w' => e = .returned (.bool true) ∧ Bw w' c b N most k (((d.tk (takeS d.st kk o) t).pt n v ls u).qu n (up (d.L n) qn (d.L n qn ++ [kk]))) R ∧ Cs c c W w' := fun qn hqn ls u W c b k R v BW => by
    refine (Fif.q_push_yes (BW.fq n hn) qn kk hqn hkN.1 (fun j _ => hnq j)).mono ?_
    rintro e w' ⟨rfl, hF, hB⟩
    obtain ⟨h1, h2⟩ := BW.stepQ hn hB hF
    exact ⟨rfl, h1, h2⟩
  have hp : I64 o.price := ⟨by have := ho.2.1; omega, by have := ho.2.1; omega⟩
  obtain ⟨i, hst⟩ := stands_ex (kf := keys (n : Int) (d.ls n)) (k := keyF (n : Int) o.price) (d.ls n).length S.up
  by_cases hf : i < (d.ls n).length ∧ keys (n : Int) (d.ls n) i = keyF (n : Int) o.price
  · obtain ⟨hi, hk⟩ := hf
    have hl : (d.ls n)[i]? = some (d.ls n)[i] := List.getElem?_eq_getElem hi
    have hm := List.getElem_mem hi
    have V := S.lv _ hm
    have hpr : o.price = (d.ls n)[i].price := by
      rw [keys_at hi] at hk
      have hr := V.rng
      exact (key_one (side := (n : Int)) ⟨by omega, by omega⟩ hp hk).symm
    obtain ⟨hq1, hq2⟩ := lv_bound S I.ok (by omega) hm
    have hV := V.q0
    have hqn : (((d.ls n)[i].queue.toNat : Nat) : Int) = (d.ls n)[i].queue := by omega
    refine ⟨kk, (d.ls n)[i].queue.toNat, takeS d.st kk o, t, _, d.u n, _, hT, fun W c b k R BW => ?_, hQ _ (by omega) _ _, fun W c b k v hk BW => hX _ W c b k hk BW, fun v => hBi v _ _ _ (si_add S hl kk o hpr)⟩
    rw [hqn]
    refine (Lad.put_add (BW.la n hn) S.up o.price o.qty ⟨by have := ho.2.1; omega, by have := ho.2.1; omega⟩ ⟨by have := ho.2.2.1; omega, by have := ho.2.2.1; omega⟩ hi hst hk hl ⟨by omega, by omega⟩ ⟨by have := ho.2.2.1; omega, by have := ho.2.2.1; omega⟩ (by omega)).mono ?_
    rintro e w' ⟨rfl, hL, hS⟩
    obtain ⟨c', h1, h2⟩ := BW.stepL hn hS hL
    exact ⟨rfl, _, c', h1, h2⟩
  · have hroom2 : (d.ls n).length < most := by
      unfold fitsO at hfit
      rw [← ls_any S, ← ls_count hn S, Bool.and_eq_true, Bool.or_eq_true, decide_eq_true_eq, decide_eq_true_eq] at hfit
      rcases hfit.2 with h | h
      · rw [← Lad.any_stands (fun l hl => by have := (S.lv l hl).rng; omega) S.up hp hst, decide_eq_false hf] at h
        cases h
      · exact h
    obtain ⟨qn, hq1, hq2, hq3⟩ := low_free (u := d.u n) (qs := (d.ls n).map (·.queue)) (fun j h => (S.bz j).1 h)
    rw [List.length_map] at hq1
    refine ⟨kk, qn, takeS d.st kk o, t, _, _, _, hT, fun W c b k R BW => ?_, hQ qn (by omega) _ _, fun W c b k v hk BW => hX _ W c b k hk BW, fun v => hBi v _ _ _ (si_fresh S ho.2.1 hst hf (by omega) hq2 hroom2)⟩
    refine (Lad.put_new (BW.la n hn) S.up o.price o.qty ⟨by have := ho.2.1; omega, by have := ho.2.1; omega⟩ (by have := ho.2.2.1; omega) hst hf (by show ((d.ls n).length : Int) < (most : Int); omega) (by omega) S.ul qn (by omega) hq3 hq2).mono ?_
    rintro e w' ⟨v', rfl, hL, hS⟩
    obtain ⟨c', h1, h2⟩ := BW.stepL hn hS hL
    exact ⟨rfl, _, c', h1, h2⟩
end Bk
end Go.Proofs.YtacpjpkhmdcagaaGreat
