/- This text proves contracts of damperref13, the document's book: a list of orders over a slice in memory; New, Find, Get. They have no conditions but those that they state. -/
import Derived.Test.YtacpjpkhmdcagaaGreatBkV
import Derived.Test.YtacpjpkhmdcagaaGreatSink
namespace Go.Proofs.YtacpjpkhmdcagaaGreat
set_option linter.unusedVariables false
open Go.RowKit
namespace Rk
set_option maxHeartbeats 2000000
set_option maxRecDepth 10000
open Are (ord0)
open Bk (fndI)
theorem ord_ok (l : List Ord) : ∀ r ∈ l.map Ord.cells, r.length = 7 ∧ ∀ u ∈ r, u.oneCell' = true := by
  intro r hr
  obtain ⟨x, _, rfl⟩ := List.mem_map.1 hr
  exact ⟨rfl, fun u hu => by simp [Ord.cells] at hu; rcases hu with rfl | rfl | rfl | rfl | rfl | rfl | rfl <;> rfl⟩
def flatO (l : List Ord) : List Value := (l.map Ord.cells).flatten
/-- The document's book in memory. -/
structure Rb (w : World) (rb : Nat) (N most : Int) (L : List Ord) (A : Option Addr) (cap : Nat) : Prop where
  hd : Blk w rb 76 #[.int .i64 N, .int .i64 most, .slice A L.length cap]
  rd : Rd w 7 A (L.map Ord.cells)
  fit : L.length ≤ cap
  nil : A = none → cap = 0
  far : ∀ a, A = some a → a.block ≠ rb ∧ a.block < w.heap.size
  len : L.length ≤ 1000
theorem Rb.keep {w w' : World} {rb : Nat} {N most : Int} {L : List Ord} {A : Option Addr} {cap : Nat} (q : Rb w rb N most L A cap) (hz : w.heap.size ≤ w'.heap.size) (hk : w'.heap[rb]? = w.heap[rb]?) (ha : ∀ a, A = some a → w'.heap[a.block]? = w.heap[a.block]?) : Rb w' rb N most L A cap :=
  ⟨hk.trans q.hd, q.rd.keep ha, q.fit, q.nil, fun a e => by have := q.far a e; omega, q.len⟩
theorem Rb.ext {w w' : World} {rb : Nat} {N most : Int} {L : List Ord} {A : Option Addr} {cap : Nat} (q : Rb w rb N most L A cap) (hb : Below w.heap.size w w') : Rb w' rb N most L A cap :=
  q.keep hb.size (hb.block _ q.hd.lt) (fun a e => hb.block _ (q.far a e).2)
section
variable {w : World} {rb : Nat} {N most : Int} {L : List Ord} {A : Option Addr} {cap : Nat}
theorem Rb.at (q : Rb w rb N most L A cap) {j : Nat} (hj : j < L.length) : ∃ b o, A = some ⟨b, o, none⟩ ∧ w.rangeAt b (o + j * 7) L[j].cells := by
  obtain ⟨b, o, e, hc⟩ := q.rd.at hj
  exact ⟨b, o, e, fun i v hv => by rw [Nat.add_assoc]; exact hc i v hv⟩
def idxI (id : Int) (L : List Ord) : Nat := L.findIdx fun o => decide (o.id = id)
def plcI (id : Int) (L : List Ord) : Int := if idxI id L < L.length then (idxI id L : Int) else -1
theorem rfind_any (q : Rb w rb N most L A cap) (id : Int) : Calls Tryz.prog 54 #[.pointer (some ⟨rb, 0, none⟩), .int .i64 id] w fun e w' => e = .returned (.int .i64 (plcI id L)) ∧ w = w' := by
  have c2 : w.cell? ⟨rb, 2, none⟩ = some (.slice A L.length cap) := q.hd.cell 2
  have hlen := q.len
  go_enter Tryz.func54, Tryz.ntmps54
  go_wp2_with fail
  go_loop [5] (fun x => ∃ n : Nat, x = .int .i64 n ∧ n ≤ L.length ∧ Hid (∀ j (h : j < L.length), j < n → L[j].id ≠ id)) (fun x => L.length - (intOf x).toNat)
  case atStart => exact ⟨0, rfl, Nat.zero_le _, Lib.hid (fun j _ h => by omega)⟩
  case round =>
    obtain ⟨n, rfl, hn, HB⟩ := hrel
    by_cases hlt : n < L.length
    · have e1 : (n : Int) < (L.length : Int) := by omega
      obtain ⟨b, o, rfl, hr⟩ := q.at hlt
      have h0 : w.cell? ⟨b, o + n * 7, none⟩ = some (.int .i64 L[n].id) := hr 0 _ rfl
      clear hr
      by_cases he : L[n].id = id
      · have HP : Hid (plcI id L = n) := Lib.hid (by
          have e : idxI id L = n := by
            unfold idxI
            rw [List.findIdx_eq hlt]
            exact ⟨by simpa using he, fun j hj => by simpa using HB.out j (by omega) hj⟩
          unfold plcI
          rw [e, if_pos hlt])
        rw [he] at h0
        clear he
        go_wp2_with fail
        go_ret
        exact ⟨by rw [HP.out]; rfl, rfl⟩
      · have HB2 : Hid (∀ j (h : j < L.length), j < n + 1 → L[j].id ≠ id) := Lib.hid (fun j h hj => by
          rcases Nat.lt_or_ge j n with h2 | h2
          · exact HB.out j h h2
          · have : j = n := by omega
            subst this
            exact he)
        have hs : (L[n].id == id) = false := by simpa using he
        clear he
        go_wp2_with fail
        go_round
        case rel => exact ⟨n + 1, by go_num, by omega, HB2⟩
        case measure => simp [intOf]; omega
    · have HP : Hid (plcI id L = -1) := Lib.hid (by
        unfold plcI
        rw [if_neg]
        intro h
        have h2 := List.findIdx_getElem (w := h)
        exact HB.out _ h (by omega) (of_decide_eq_true h2))
      clear HB
      go_wp2_with fail
      go_ret
      exact ⟨by rw [HP.out]; rfl, rfl⟩
theorem fnd_idx (id : Int) : ∀ L : List Ord, fndI id L = L[idxI id L]?
  | [] => rfl
  | x :: L => by
    have ih := fnd_idx id L
    unfold fndI idxI at *
    rw [List.find?_cons, List.findIdx_cons]
    cases h : decide (x.id = id) with
    | true => rfl
    | false => simpa using ih
theorem fnd_yes {id : Int} (h : idxI id L < L.length) : fndI id L = some L[idxI id L] := by rw [fnd_idx, List.getElem?_eq_getElem h]
theorem fnd_no {id : Int} (h : ¬ idxI id L < L.length) : fndI id L = none := by rw [fnd_idx, List.getElem?_eq_none (by omega)]
theorem rnew_bad (a b : Int) (h : a < 1 ∨ 500 < a ∨ b < 1 ∨ 200 < b) (w : World) : Calls Tryz.prog 23 #[.int .i64 a, .int .i64 b] w fun e w' => e = .returned (.tuple #[.pointer none, .int .i64 9]) ∧ w = w' := by
  rcases h with h | h | h | h
  all_goals
    by_cases h1 : a < 1 <;> by_cases h2 : 500 < a <;> by_cases h3 : b < 1 <;> try omega
  all_goals
    go_enter Tryz.func23, Tryz.ntmps23
    go_wp2_with fail
    exact bodyPost_ret (v := .tuple #[.pointer none, .int .i64 9]) (by simp [results, Tryz.results23, go_sem]; first | done | rfl) rfl ⟨rfl, rfl⟩
theorem rnew_ok (a b : Int) (h : 1 ≤ a ∧ a ≤ 500 ∧ 1 ≤ b ∧ b ≤ 200) (w : World) : Calls Tryz.prog 23 #[.int .i64 a, .int .i64 b] w fun e w' => e = .returned (.tuple #[.pointer (some ⟨w.heap.size, 0, none⟩), .int .i64 0]) ∧ Rb w' w.heap.size a b [] none 0 ∧ Below w.heap.size w w' := by
  obtain ⟨h1, h2, h3, h4⟩ := h
  go_enter Tryz.func23, Tryz.ntmps23
  go_wp2_with fail
  refine bodyPost_ret (v := .tuple #[.pointer (some ⟨w.heap.size, 0, none⟩), .int .i64 0]) (by simp [results, Tryz.results23, go_sem]; first | done | rfl) rfl ⟨rfl, ⟨Blk.new _ _ _ _ rfl, fun hne => absurd rfl hne, Nat.le_refl _, fun _ => rfl, (fun a e => by cases e), by simp⟩, by (repeat (first | with_reducible exact Below.refl _ _ | (with_reducible assumption) | (with_reducible refine below_alloc ?_ _) | (with_reducible refine below_ext (w1 := ?_) ?_ ?_; rotate_left 2; (with_reducible assumption)) | (with_reducible refine Below.setCell ?_ ?_ _; rotate_left; ((try simp) <;> omega)) | (with_reducible refine Below.drew ?_) | (with_reducible refine below_drewN ?_ _) | fail))⟩
end
end Rk
end Go.Proofs.YtacpjpkhmdcagaaGreat
