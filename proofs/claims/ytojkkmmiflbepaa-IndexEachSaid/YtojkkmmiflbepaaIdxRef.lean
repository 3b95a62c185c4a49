/- This text proves contracts of damperref12: a list of rows, over a slice in memory. They have no conditions but those that they state. -/
import Derived.Test.YtojkkmmiflbepaaIdxAlive
import Derived.Test.YtojkkmmiflbepaaSink
namespace Go.Proofs.Ytojkkmmiflbepaa
set_option linter.unusedVariables false
open Go.RowKit Go.Maps
namespace Idx
set_option maxHeartbeats 1000000
set_option maxRecDepth 10000
def R3.cells (r : R3) : List Value := [.int .i64 r.sym, .int .i64 r.id, .int .i64 r.slot]
theorem r3_ok (l : List R3) : ∀ r ∈ l.map R3.cells, r.length = 3 ∧ ∀ u ∈ r, u.oneCell' = true := by
  intro r hr
  obtain ⟨x, _, rfl⟩ := List.mem_map.1 hr
  exact ⟨rfl, fun u hu => by simp [R3.cells] at hu; rcases hu with rfl | rfl | rfl <;> rfl⟩
def flatR (l : List R3) : List Value := (l.map R3.cells).flatten
theorem flatR_app (a b : List R3) : flatR (a ++ b) = flatR a ++ flatR b := by simp [flatR]
/-- The document's index in memory. -/
structure Rq (w : World) (rb : Nat) (L : List R3) (A : Option Addr) (cap : Nat) : Prop where
  hd : Blk w rb 29 #[.slice A L.length cap]
  rd : Rd w 3 A (L.map R3.cells)
  fit : L.length ≤ cap
  nil : A = none → cap = 0
  far : ∀ a, A = some a → a.block ≠ rb ∧ a.block < w.heap.size
  len : L.length ≤ 500
theorem Rq.keep {w w' : World} {rb : Nat} {L : List R3} {A : Option Addr} {cap : Nat} (q : Rq w rb L A cap) (hz : w.heap.size ≤ w'.heap.size) (hk : w'.heap[rb]? = w.heap[rb]?) (ha : ∀ a, A = some a → w'.heap[a.block]? = w.heap[a.block]?) : Rq w' rb L A cap :=
  ⟨hk.trans q.hd, q.rd.keep ha, q.fit, q.nil, fun a e => by have := q.far a e; omega, q.len⟩
theorem Rq.ext {w w' : World} {rb : Nat} {L : List R3} {A : Option Addr} {cap : Nat} (q : Rq w rb L A cap) (hb : Below w.heap.size w w') : Rq w' rb L A cap :=
  q.keep hb.size (hb.block _ q.hd.lt) (fun a e => hb.block _ (q.far a e).2)
section
variable {w : World} {rb : Nat} {L : List R3} {A : Option Addr} {cap : Nat}
theorem Rq.at (q : Rq w rb L A cap) {j : Nat} (hj : j < L.length) : ∃ b o, A = some ⟨b, o, none⟩ ∧ w.rangeAt b (o + j * 3) L[j].cells ∧ w.cell? ⟨b, o + j * 3, none⟩ = some (.int .i64 L[j].sym) ∧ w.cell? ⟨b, o + j * 3 + 1, none⟩ = some (.int .i64 L[j].id) ∧ w.cell? ⟨b, o + j * 3 + 2, none⟩ = some (.int .i64 L[j].slot) := by
  obtain ⟨b, o, e, hc⟩ := q.rd.at hj
  have hr : w.rangeAt b (o + j * 3) L[j].cells := fun i v hv => by rw [Nat.add_assoc]; exact hc i v hv
  exact ⟨b, o, e, hr, hr 0 _ rfl, hr 1 _ rfl, hr 2 _ rfl⟩
theorem is_no {s i : Int} {r : R3} (h : R3.is s i r = false) : r.sym ≠ s ∨ (r.sym = s ∧ r.id ≠ i) := by
  simp only [R3.is, decide_eq_false_iff_not] at h
  by_cases e : r.sym = s
  · exact .inr ⟨e, fun h1 => h ⟨e, h1⟩⟩
  · exact .inl e
theorem rfind_yes (q : Rq w rb L A cap) {s i : Int} (k : Nat) (hk : k < L.length) (hm : R3.is s i L[k] = true) (hb : ∀ j (h : j < k), R3.is s i (L[j]'(by omega)) = false) : Calls Try.prog 20 #[.pointer (some ⟨rb, 0, none⟩), .int .i64 s, .int .i64 i] w fun e w' => e = .returned (.int .i64 k) ∧ w = w' := by
  have c0 : w.cell? ⟨rb, 0, none⟩ = some (.slice A L.length cap) := q.hd.cell 0
  have hlen := q.len
  have HB := Lib.hid hb
  clear hb
  go_enter Try.func20, Try.ntmps20
  go_wp2_with fail
  go_loop [7] (fun x => ∃ n : Nat, x = .int .i64 n ∧ n ≤ k) (fun x => L.length - (intOf x).toNat)
  case atStart => exact ⟨0, rfl, Nat.zero_le _⟩
  case round =>
    obtain ⟨n, rfl, hn⟩ := hrel
    have hlt : n < L.length := by omega
    have e1 : (n : Int) < (L.length : Int) := by omega
    obtain ⟨b, o, rfl, _, h0, h1, _⟩ := q.at hlt
    by_cases hnk : n < k
    · rcases is_no (HB.out n hnk) with h | ⟨h, h'⟩
      · have hs : (L[n].sym == s) = false := by simpa using h
        go_wp2_with fail
        go_round
        case rel => exact ⟨n + 1, by go_num, by omega⟩
        case measure => simp [intOf]; omega
      · have hi : (L[n].id == i) = false := by simpa using h'
        rw [h] at h0
        go_wp2_with fail
        go_round
        case rel => exact ⟨n + 1, by go_num, by omega⟩
        case measure => simp [intOf]; omega
    · obtain rfl : n = k := by omega
      simp only [R3.is, decide_eq_true_eq] at hm
      rw [hm.1] at h0
      rw [hm.2] at h1
      go_wp2_with fail
      go_ret
      exact ⟨rfl, rfl⟩
theorem rfind_no (q : Rq w rb L A cap) {s i : Int} (hb : ∀ r ∈ L, R3.is s i r = false) : Calls Try.prog 20 #[.pointer (some ⟨rb, 0, none⟩), .int .i64 s, .int .i64 i] w fun e w' => e = .returned (.int .i64 (-1)) ∧ w = w' := by
  have c0 : w.cell? ⟨rb, 0, none⟩ = some (.slice A L.length cap) := q.hd.cell 0
  have hlen := q.len
  have HB := Lib.hid hb
  clear hb
  go_enter Try.func20, Try.ntmps20
  go_wp2_with fail
  go_loop [7] (fun x => ∃ n : Nat, x = .int .i64 n ∧ n ≤ L.length) (fun x => L.length - (intOf x).toNat)
  case atStart => exact ⟨0, rfl, Nat.zero_le _⟩
  case round =>
    obtain ⟨n, rfl, hn⟩ := hrel
    by_cases hlt : n < L.length
    · have e1 : (n : Int) < (L.length : Int) := by omega
      obtain ⟨b, o, rfl, _, h0, h1, _⟩ := q.at hlt
      rcases is_no (HB.out _ (List.getElem_mem hlt)) with h | ⟨h, h'⟩
      · have hs : (L[n].sym == s) = false := by simpa using h
        go_wp2_with fail
        go_round
        case rel => exact ⟨n + 1, by go_num, by omega⟩
        case measure => simp [intOf]; omega
      · have hi : (L[n].id == i) = false := by simpa using h'
        rw [h] at h0
        go_wp2_with fail
        go_round
        case rel => exact ⟨n + 1, by go_num, by omega⟩
        case measure => simp [intOf]; omega
    · go_wp2_with fail
      go_ret
      exact ⟨rfl, rfl⟩
theorem look_at {s i : Int} : ∀ {L : List R3}, (look L s i).isSome = true → ∃ k, ∃ h : k < L.length, R3.is s i L[k] = true ∧ (∀ j (h : j < k), R3.is s i (L[j]'(by omega)) = false) ∧ look L s i = some L[k]
  | [], h => by simp [look] at h
  | r :: L, h => by
    by_cases e : R3.is s i r = true
    · exact ⟨0, by simp, e, fun j h => by omega, by simp [look, e]⟩
    · have hl : look (r :: L) s i = look L s i := by simp [look, e]
      rw [hl] at h
      obtain ⟨k, hk, h1, h2, h3⟩ := look_at h
      refine ⟨k + 1, by simpa using hk, by simpa using h1, fun j hj => ?_, by rw [hl, h3]; simp⟩
      cases j with
      | zero => simpa using e
      | succ j => simpa using h2 j (by omega)
theorem look_no {s i : Int} {L : List R3} (h : look L s i = none) : ∀ r ∈ L, R3.is s i r = false := by
  unfold look at h
  rw [List.find?_eq_none] at h
  intro r hr
  simpa using h r hr
theorem rget_yes (q : Rq w rb L A cap) {s i : Int} (h : (look L s i).isSome = true) : Calls Try.prog 13 #[.pointer (some ⟨rb, 0, none⟩), .int .i64 s, .int .i64 i] w fun e w' => e = .returned (.tuple #[.int .i64 ((look L s i).elim 0 R3.slot), .bool (look L s i).isSome]) ∧ w = w' := by
  obtain ⟨k, hk, h1, h2, h3⟩ := look_at h
  rw [h3]
  have HF := Lib.hid (rfind_yes q k hk h1 h2)
  have c0 : w.cell? ⟨rb, 0, none⟩ = some (.slice A L.length cap) := q.hd.cell 0
  obtain ⟨b, o, rfl, _, _, _, c2⟩ := q.at hk
  have e1 : (k : Int) < (L.length : Int) := by omega
  clear h h1 h2 h3
  go_enter Try.func13, Try.ntmps13
  go_wp2_with (first | (go_at_call 20; refine HF.out.mono ?_; rintro e w' ⟨rfl, rfl⟩) | fail)
  go_ret2
  exact ⟨rfl, rfl⟩
theorem rget_no (q : Rq w rb L A cap) {s i : Int} (h : look L s i = none) : Calls Try.prog 13 #[.pointer (some ⟨rb, 0, none⟩), .int .i64 s, .int .i64 i] w fun e w' => e = .returned (.tuple #[.int .i64 ((look L s i).elim 0 R3.slot), .bool (look L s i).isSome]) ∧ w = w' := by
  rw [h]
  have HF := Lib.hid (rfind_no q (look_no h))
  clear h
  go_enter Try.func13, Try.ntmps13
  go_wp2_with (first | (go_at_call 20; refine HF.out.mono ?_; rintro e w' ⟨rfl, rfl⟩) | fail)
  go_ret2
  exact ⟨rfl, rfl⟩
theorem rget_any (q : Rq w rb L A cap) (s i : Int) : Calls Try.prog 13 #[.pointer (some ⟨rb, 0, none⟩), .int .i64 s, .int .i64 i] w fun e w' => e = .returned (.tuple #[.int .i64 ((look L s i).elim 0 R3.slot), .bool (look L s i).isSome]) ∧ w = w' := by
  cases h : look L s i with
  | none =>
    have := rget_no q h
    rwa [h] at this
  | some r =>
    have := rget_yes q (s := s) (i := i) (by rw [h]; rfl)
    rwa [h] at this
theorem owns_r3 {w : World} {B : Nat} {v : Value} {l : List R3} (h : w.ownsRow B 38 3 v l.length (flatR l)) : ∃ A cap, v = .slice A l.length cap ∧ Rd w 3 A (l.map R3.cells) ∧ l.length ≤ cap ∧ (A = none → cap = 0) ∧ ∀ a, A = some a → B ≤ a.block ∧ a.block < w.heap.size := by
  rcases h.2 with ⟨rfl, h0⟩ | ⟨g, cap, cur, rfl, hb, hg, hc, _, _, ht⟩
  · rw [h0]
    have : l = [] := List.eq_nil_of_length_eq_zero h0
    subst this
    exact ⟨none, 0, rfl, fun hne => absurd rfl hne, Nat.le_refl _, fun _ => rfl, fun a e => by cases e⟩
  · refine ⟨some ⟨g, 0, none⟩, cap, rfl, rd_own (show Blk w g 38 cur from hg) (n := l.length) (fun r hr => ?_) ht, hc, (fun e => by cases e), fun a e => ?_⟩
    · exact (r3_ok l r hr).1
    · cases e
      exact ⟨hb, heap_lt hg⟩
theorem owns_cellsR {W : World} {B : Nat} {e : TypeId} {size n : Nat} {v : Value} {xs : List Value} (h : W.ownsRow B e size v n xs) : v.cells = #[v] ∧ v.oneCell' = true := by
  rcases h.2 with ⟨rfl, _⟩ | ⟨g, cap, cur, rfl, _⟩ <;> exact ⟨rfl, rfl⟩
/-- The state behind a store of a new slice. -/
theorem Rq.of_owns {w w5 w6 : World} {rb : Nat} {l : List R3} {v : Value} (hown : w5.ownsRow w.heap.size 38 3 v l.length (flatR l)) (hl : l.length ≤ 500) (hst : Blk w6 rb 29 #[v]) (hu : Upd rb w5 w6) (hrb : rb < w.heap.size) : ∃ A cap, Rq w6 rb l A cap := by
  obtain ⟨A, cap, rfl, hrd, hfit, hnil, hfar⟩ := owns_r3 hown
  exact ⟨A, cap, hst, hrd.keep (fun a e => hu.block _ (by have := (hfar a e).1; omega)), hfit, hnil, fun a e => by have := hfar a e; have := hu.size; omega, hl⟩
theorem rput_old (q : Rq w rb L A cap) {s i : Int} (v : Int) (h : (look L s i).isSome = true) : Calls Try.prog 12 #[.pointer (some ⟨rb, 0, none⟩), .int .i64 s, .int .i64 i, .int .i64 v] w fun e w' => e = .returned (.bool false) ∧ w = w' := by
  obtain ⟨k, hk, h1, h2, h3⟩ := look_at h
  have HF := Lib.hid (rfind_yes q k hk h1 h2)
  clear h h1 h2 h3
  go_enter Try.func12, Try.ntmps12
  go_wp2_with (first | (go_at_call 20; refine HF.out.mono ?_; rintro e w' ⟨rfl, rfl⟩) | fail)
  go_ret
  exact ⟨rfl, rfl⟩
theorem rput_new (q : Rq w rb L A cap) {s i : Int} (v : Int) (h : look L s i = none) (hl : L.length < 500) : Calls Try.prog 12 #[.pointer (some ⟨rb, 0, none⟩), .int .i64 s, .int .i64 i, .int .i64 v] w fun e w' => e = .returned (.bool true) ∧ (∃ A' cap', Rq w' rb (L ++ [⟨s, i, v⟩]) A' cap') ∧ ButL [rb] w.heap.size w w' := by
  have HF := Lib.hid (rfind_no q (look_no h))
  have c0 : w.cell? ⟨rb, 0, none⟩ = some (.slice A L.length cap) := q.hd.cell 0
  have hrl := q.hd.lt
  have hrd := q.rd
  have hnil := q.nil
  clear h
  go_enter Try.func12, Try.ntmps12
  go_wp2_with (first | (go_at_call 20; refine HF.out.mono ?_; rintro e w' ⟨rfl, rfl⟩) | (refine wpList_build0 (by rfl) 27 38 (by rfl) 3 Try.underlying27 (by kernel_rfl) w.heap.size (Nat.le_refl _) ?_; intro w2 hown2 hb2 hz2'; have hz2 := Lib.hid hz2'; clear hz2'; have c2 : w2.cell? ⟨rb, 0, none⟩ = some (.slice A L.length cap) := (hb2.cell (p := ⟨rb, 0, none⟩) hrl).trans c0) | (refine wpList_append_rd (by rfl) _ _ _ (by rfl) w.heap.size 38 (.agg #[.int .i64 0, .int .i64 0, .int .i64 0]) 3 24 Try.underlying27 (by kernel_rfl) ⟨rfl, by decide⟩ _ 0 [] (by rfl) hown2 A L.length cap (L.map R3.cells) (by rfl) (hrd.below hb2) ⟨List.length_map _, r3_ok _⟩ hnil ?_ ?_ ?_; (next => unfold maxLen; omega); (next => have := hz2.out; omega); intro v3 w3 hown3 hb3' hz3 hk3; have hb3 : Below w.heap.size w w3 := hb2.trans hb3'; have hz3o : w.heap.size ≤ w3.heap.size := hb3.size) | (refine wpList_build1 (by rfl) 27 38 _ (by rfl) (.agg #[.int .i64 0, .int .i64 0, .int .i64 0]) 3 Try.underlying27 (by kernel_rfl) ⟨by decide, by decide⟩ (.agg #[.int .i64 s, .int .i64 i, .int .i64 v]) (by rfl) #[.int .i64 s, .int .i64 i, .int .i64 v] (by kernel_rfl) ?_; intro w4 hB4 hb4 hz4'; have hz4 := Lib.hid hz4'; clear hz4'; have hown4 := owns_ext hown3 hb4) | (refine wpList_append_rd (by rfl) _ _ _ (by rfl) w.heap.size 38 (.agg #[.int .i64 0, .int .i64 0, .int .i64 0]) 3 24 Try.underlying27 (by kernel_rfl) ⟨rfl, by decide⟩ v3 (0 + L.length) _ (by rfl) hown4 (some ⟨w3.heap.size, 0, none⟩) 1 1 [R3.cells ⟨s, i, v⟩] (by rfl) ?_ ⟨rfl, by simp [R3.cells, Value.oneCell']⟩ (fun e => by cases e) ?_ ?_ ?_; (next => exact rd_own hB4 (by simp [R3.cells]) (n := 1) (by simp [R3.cells])); (next => unfold maxLen; omega); (next => have := hz4.out; omega); intro v5 w5 hown5 hb5' hz5 hk5; have hb5 : Below w.heap.size w w5 := (hb3.trans (hb4.mono hz3o)).trans hb5'; have hd5 := q.hd.ext hb5) | (refine wpList_store_fld (by rfl) _ _ _ (by rfl) _ _ (by rfl) _ (by rfl) _ _ hd5 ?_ ?_ (owns_cellsR hown5).1 (owns_cellsR hown5).2 ?_; (next => first | omega | ((try simp) <;> omega)); (next => kernel_rfl); intro w6 hd6 hU6) | fail)
  go_ret
  have e1 : (L ++ [(⟨s, i, v⟩ : R3)]).length = 0 + L.length + 1 := by simp
  have e2 : flatR (L ++ [(⟨s, i, v⟩ : R3)]) = [] ++ (L.map R3.cells).flatten ++ [R3.cells ⟨s, i, v⟩].flatten := by simp [flatR]
  have hown6 : w5.ownsRow w.heap.size 38 3 v5 (L ++ [(⟨s, i, v⟩ : R3)]).length (flatR (L ++ [(⟨s, i, v⟩ : R3)])) := by rw [e1, e2]; exact hown5
  exact ⟨rfl, Rq.of_owns hown6 (by simp; omega) hd6 hU6 hrl, (ButL.of_below hb5).upd (by simp) hU6⟩
theorem rdrop_no (q : Rq w rb L A cap) {s i : Int} (h : look L s i = none) : Calls Try.prog 15 #[.pointer (some ⟨rb, 0, none⟩), .int .i64 s, .int .i64 i] w fun e w' => e = .returned (.bool false) ∧ w = w' := by
  have HF := Lib.hid (rfind_no q (look_no h))
  clear h
  go_enter Try.func15, Try.ntmps15
  go_wp2_with (first | (go_at_call 20; refine HF.out.mono ?_; rintro e w' ⟨rfl, rfl⟩) | fail)
  go_ret
  exact ⟨rfl, rfl⟩
/-! ### slices of the list -/
theorem cut_head (A : Option Addr) (len cap k : Nat) (hk : k ≤ cap) (hn : A = none → cap = 0) : ∃ (A' : Option Addr), (A' = none → cap = 0) ∧ (∀ (W : World) (l m : List R3), Rd W 3 A ((l ++ m).map R3.cells) → Rd W 3 A' (l.map R3.cells)) ∧ ∀ W, (Instr.sliceAt 27 (.slice A len cap) none (some (.int .i64 k)) none).run Try.prog W = .ok (.slice A' k cap) W := by
  have ht : Try.prog.underlying 27 = some (.slice (Try.prog.elem 27)) := by kernel_rfl
  have he : Try.prog.elem 27 = 38 := by kernel_rfl
  obtain ⟨i, hi, hz, hs, hby⟩ := info_parts (P := Try.prog) (e := 38) (z := .agg #[.int .i64 0, .int .i64 0, .int .i64 0]) (size := 3) (bytes := 24) (by kernel_rfl)
  refine ⟨A, hn, fun W l m h hne => ?_, fun W => ?_⟩
  · obtain ⟨b1, o1, e1, hc⟩ := h (by intro h0; apply hne; simp at h0; simp [h0.1])
    refine ⟨b1, o1, e1, fun i j u hu => hc i j u ?_⟩
    by_cases hi : i < l.length
    · rw [List.map_append, List.getD_eq_getElem?_getD, List.getElem?_append_left (by simpa using hi), ← List.getD_eq_getElem?_getD]
      exact hu
    · rw [List.getD_eq_getElem?_getD, List.getElem?_eq_none (l := l.map R3.cells) (i := i) (by simpa using hi)] at hu
      simp at hu
  · rw [run_sliceAt_slice (h := ht), run_slice_h (ht := ht) (kh := .i64) (h := (k : Int)) (cap := cap) (h0 := by omega) (h2 := by omega), he]
    simp only [sizeOf, typeInfo, Sem.run_bind]
    simp [hi, sliced]
    intro _
    cases A with
    | none => rfl
    | some a =>
      obtain ⟨b, o, x⟩ := a
      simp [Addr.add]
theorem cut_tail (A : Option Addr) (len cap k : Nat) (hk : k ≤ len) (hf : len ≤ cap) (hn : A = none → cap = 0) : ∃ (A' : Option Addr), (A' = none → cap - k = 0) ∧ (∀ (W : World) (l m : List R3), l.length = k → (l ++ m).length = len → Rd W 3 A ((l ++ m).map R3.cells) → Rd W 3 A' (m.map R3.cells)) ∧ ∀ W, (Instr.sliceAt 27 (.slice A len cap) (some (.int .i64 k)) none none).run Try.prog W = .ok (.slice A' (len - k) (cap - k)) W := by
  have ht : Try.prog.underlying 27 = some (.slice (Try.prog.elem 27)) := by kernel_rfl
  have he : Try.prog.elem 27 = 38 := by kernel_rfl
  obtain ⟨i, hi, hz, hs, hby⟩ := info_parts (P := Try.prog) (e := 38) (z := .agg #[.int .i64 0, .int .i64 0, .int .i64 0]) (size := 3) (bytes := 24) (by kernel_rfl)
  refine ⟨if cap = k then A else A.map (·.add (k * 3)), ?_, fun W l m hl hlm h hne => ?_, fun W => ?_⟩
  · intro h
    by_cases e : cap = k
    · omega
    · rw [if_neg e] at h
      have := hn (by simpa using h)
      omega
  · by_cases e : cap = k
    · have h0 : m = [] := by
        apply List.eq_nil_of_length_eq_zero
        simp at hlm
        omega
      subst h0
      exact absurd rfl hne
    · rw [if_neg e]
      obtain ⟨b1, o1, rfl, hc⟩ := h (by intro h0; apply hne; simp at h0; simp [h0.2])
      refine ⟨b1, o1 + k * 3, by simp [Addr.add], fun i j u hu => ?_⟩
      have h1 := hc (k + i) j u (by
        rw [List.map_append, List.getD_eq_getElem?_getD, List.getElem?_append_right (by simp; omega)]
        rw [List.getD_eq_getElem?_getD] at hu
        simpa [hl] using hu)
      rw [← h1]
      congr 2
      omega
  · rw [run_sliceAt_slice (h := ht), run_slice_l (ht := ht) (kl := .i64) (l := (k : Int)) (len := len) (h0 := by omega) (h1 := by omega), he]
    simp only [sizeOf, typeInfo, Sem.run_bind]
    simp [hi, sliced, hs]
theorem dropR_at {s i : Int} : ∀ {L : List R3} (k : Nat) (hk : k < L.length), Uniq L → R3.is s i L[k] = true → dropR L s i = L.take k ++ L.drop (k + 1)
  | r :: L, 0, _, hu, h => by
    have h0 : R3.is s i r = true := h
    have hl : look L s i = none := by
      unfold look
      rw [List.find?_eq_none]
      intro x hx hx2
      simp only [R3.is, decide_eq_true_eq] at h0 hx2
      exact (List.pairwise_cons.1 hu).1 x hx ⟨h0.1.trans hx2.1.symm, h0.2.trans hx2.2.symm⟩
    have := drop_none hl
    unfold dropR at this ⊢
    rw [List.filter_cons]
    simp [h0]
    simpa using this
  | r :: L, k + 1, hk, hu, h => by
    have hk' : k < L.length := by simpa using hk
    obtain ⟨hr, hu⟩ := List.pairwise_cons.1 hu
    have h' : R3.is s i L[k] = true := by simpa using h
    have ih := dropR_at k hk' hu h'
    have h0 : R3.is s i r = false := by
      cases e : R3.is s i r with
      | false => rfl
      | true =>
        simp only [R3.is, decide_eq_true_eq] at e h'
        exact absurd ⟨e.1.trans h'.1.symm, e.2.trans h'.2.symm⟩ (hr _ (List.getElem_mem hk'))
    unfold dropR at ih ⊢
    rw [List.filter_cons]
    simp [h0]
    simpa using ih
def SR (rb : Nat) (A : Option Addr) (len cap : Nat) (W : World) : Prop := W.cell? ⟨rb, 0, none⟩ = some (.slice A len cap) ∧ True
theorem wp_calm {P : Program} {o : Oper} {a : Act} {w : World} {K : Act → World → Prop} {Q : Exit → Act → World → Prop} {v : Value} (hx : (execOp a.eval o).run P w = .ok (.value v) w) (h : K (a.put o.dst v) w) : o.wp P a w K Q := by
  unfold Oper.wp
  rw [hx, Oper.upon_value]
  exact h
theorem rdrop_yes (q : Rq w rb L A cap) {s i : Int} (hu : Uniq L) (h : (look L s i).isSome = true) : Calls Try.prog 15 #[.pointer (some ⟨rb, 0, none⟩), .int .i64 s, .int .i64 i] w fun e w' => e = .returned (.bool true) ∧ (∃ A' cap', Rq w' rb (dropR L s i) A' cap') ∧ ButL [rb] w.heap.size w w' := by
  obtain ⟨k, hk, h1, h2, h3⟩ := look_at h
  rw [dropR_at k hk hu h1]
  have HF := Lib.hid (rfind_yes q k hk h1 h2)
  have hlen := q.len
  have hfit := q.fit
  have c0 : w.cell? ⟨rb, 0, none⟩ = some (.slice A L.length cap) := q.hd.cell 0
  have hrl := q.hd.lt
  have hrd := q.rd
  obtain ⟨A1, hn1, hr1, hs1'⟩ := cut_head A L.length cap k (by omega) q.nil
  obtain ⟨A2, hn2, hr2, hs2'⟩ := cut_tail A L.length cap (k + 1) (by omega) hfit q.nil
  have hs1 := Lib.hid hs1'
  have hs2 := Lib.hid hs2'
  push_cast at hs2
  have hR1 : Rd w 3 A1 ((L.take k).map R3.cells) := hr1 w (L.take k) (L.drop k) (by rw [List.take_append_drop]; exact hrd)
  have hR2 : Rd w 3 A2 ((L.drop (k + 1)).map R3.cells) := hr2 w (L.take (k + 1)) (L.drop (k + 1)) (by simp; omega) (by simp) (by rw [List.take_append_drop]; exact hrd)
  have hl1 : (L.take k).length = k := by simp; omega
  have hl2 : (L.drop (k + 1)).length = L.length - (k + 1) := by simp
  generalize L.take k = L1 at *
  generalize L.drop (k + 1) = L2 at *
  have HS : Hid (∀ W, Below w.heap.size w W → SR rb A L.length cap W) := Lib.hid (fun W hW => ⟨(hW.cell (p := ⟨rb, 0, none⟩) hrl).trans c0, trivial⟩)
  have hd0 := q.hd
  clear h h1 h2 h3 hs1' hs2' hr1 hr2 hrd hu q
  have hk' := hk
  clear hk
  generalize L.length = n at *
  go_enter Try.func15, Try.ntmps15
  go_wp2_with (first | (go_at_call 20; refine HF.out.mono ?_; rintro e w' ⟨rfl, rfl⟩) | fail)
  refine wp_region_T (S := SR rb A n cap) 19 (by kernel_rfl) ?_
  have hb1 : Below w.heap.size w w.drew := by (repeat (first | with_reducible exact Below.refl _ _ | (with_reducible assumption) | (with_reducible refine below_alloc ?_ _) | (with_reducible refine below_ext (w1 := ?_) ?_ ?_; rotate_left 2; (with_reducible assumption)) | (with_reducible refine Below.setCell ?_ ?_ _; rotate_left; ((try simp) <;> omega)) | (with_reducible refine Below.drew ?_) | (with_reducible refine below_drewN ?_ _) | fail))
  have hz1 : w.drew.heap.size = w.heap.size := rfl
  generalize w.drew = w1 at hb1 hz1 ⊢
  have hS := HS.out _ hb1
  (refine T_take (i := 0) rfl (by kernel_rfl) (fun _ _ _ _ h => h) hS ?_; apply Exists.intro; refine ⟨.inl ⟨by rfl, fun W hW => ?_⟩, ?_⟩; (next => (obtain ⟨hs1, hs2⟩ := hW; go_simp; first | done | rfl)); simp only [Act.put, List.setIfInBounds_toArray, List.set_cons_zero, List.set_cons_succ])
  (refine T_take (i := 2) rfl (by kernel_rfl) (fun _ _ _ _ h => h) hS ?_; apply Exists.intro; refine ⟨.inl ⟨by rfl, fun W hW => ?_⟩, ?_⟩; (next => (obtain ⟨hs1, hs2⟩ := hW; go_simp; first | done | rfl)); simp only [Act.put, List.setIfInBounds_toArray, List.set_cons_zero, List.set_cons_succ])
  (refine T_take (i := 3) rfl (by kernel_rfl) (fun _ _ _ _ h => h) hS ?_; apply Exists.intro; refine ⟨.inl ⟨by rfl, fun W hW => ?_⟩, ?_⟩; (next => (obtain ⟨hs1, hs2⟩ := hW; go_simp; first | done | rfl)); simp only [Act.put, List.setIfInBounds_toArray, List.set_cons_zero, List.set_cons_succ])
  (refine T_take (i := 4) rfl (by kernel_rfl) (fun _ _ _ _ h => h) hS ?_; apply Exists.intro; refine ⟨.inl ⟨by rfl, fun W hW => ?_⟩, ?_⟩; (next => (obtain ⟨hs1, hs2⟩ := hW; go_simp; first | done | rfl)); simp only [Act.put, List.setIfInBounds_toArray, List.set_cons_zero, List.set_cons_succ])
  (refine T_take (i := 5) rfl (by kernel_rfl) (fun _ _ _ _ h => h) hS ?_; apply Exists.intro; refine ⟨.inl ⟨by rfl, fun W hW => ?_⟩, ?_⟩; (next => (obtain ⟨hs1, hs2⟩ := hW; go_simp; first | done | rfl)); simp only [Act.put, List.setIfInBounds_toArray, List.set_cons_zero, List.set_cons_succ])
  (refine T_take (i := 6) rfl (by kernel_rfl) (fun _ _ _ _ h => h) hS ?_; apply Exists.intro; refine ⟨.inl ⟨by rfl, fun W hW => ?_⟩, ?_⟩; (next => (obtain ⟨hs1, hs2⟩ := hW; go_simp; first | done | rfl)); simp only [Act.put, List.setIfInBounds_toArray, List.set_cons_zero, List.set_cons_succ])
  (refine T_take (i := 9) rfl (by kernel_rfl) (fun _ _ _ _ h => h) hS ?_; apply Exists.intro; refine ⟨.inl ⟨by rfl, fun W hW => ?_⟩, ?_⟩; (next => (obtain ⟨hs1, hs2⟩ := hW; go_simp; first | done | rfl)); simp only [Act.put, List.setIfInBounds_toArray, List.set_cons_zero, List.set_cons_succ])
  (refine T_take (i := 10) rfl (by kernel_rfl) (fun _ _ _ _ h => h) hS ?_; apply Exists.intro; refine ⟨.inl ⟨by rfl, fun W hW => ?_⟩, ?_⟩; (next => (obtain ⟨hs1, hs2⟩ := hW; go_simp; first | done | rfl)); simp only [Act.put, List.setIfInBounds_toArray, List.set_cons_zero, List.set_cons_succ])
  (refine T_take (i := 11) rfl (by kernel_rfl) (fun _ _ _ _ h => h) hS ?_; apply Exists.intro; refine ⟨.inl ⟨by rfl, fun W hW => ?_⟩, ?_⟩; (next => (obtain ⟨hs1, hs2⟩ := hW; go_simp; first | done | rfl)); simp only [Act.put, List.setIfInBounds_toArray, List.set_cons_zero, List.set_cons_succ])
  (refine T_take (i := 12) rfl (by kernel_rfl) (fun _ _ _ _ h => h) hS ?_; apply Exists.intro; refine ⟨.inl ⟨by rfl, fun W hW => ?_⟩, ?_⟩; (next => (obtain ⟨hs1, hs2⟩ := hW; go_simp; first | done | rfl)); simp only [Act.put, List.setIfInBounds_toArray, List.set_cons_zero, List.set_cons_succ])
  (refine T_take (i := 13) rfl (by kernel_rfl) (fun _ _ _ _ h => h) hS ?_; apply Exists.intro; refine ⟨.inl ⟨by rfl, fun W hW => ?_⟩, ?_⟩; (next => (obtain ⟨hs1, hs2⟩ := hW; go_simp; first | done | rfl)); simp only [Act.put, List.setIfInBounds_toArray, List.set_cons_zero, List.set_cons_succ])
  (refine T_take (i := 14) rfl (by kernel_rfl) (fun _ _ _ _ h => h) hS ?_; apply Exists.intro; refine ⟨.inl ⟨by rfl, fun W hW => ?_⟩, ?_⟩; (next => (obtain ⟨hs1, hs2⟩ := hW; go_simp; first | done | rfl)); simp only [Act.put, List.setIfInBounds_toArray, List.set_cons_zero, List.set_cons_succ])
  rw [show IntKind.i64.wrap ((k : Int) + 1) = (k : Int) + 1 from by rw [IntKind.wrap_i64]; omega]
  (refine T_take (i := 7) rfl (by kernel_rfl) (fun _ _ _ _ h => h) hS ?_; refine ⟨_, y_slice _ _ _ _ _ (by rfl) (by rfl) (fun W _ => hs1.out W), ?_⟩; simp only [Act.put, List.setIfInBounds_toArray, List.set_cons_zero, List.set_cons_succ])
  (refine T_take (i := 15) rfl (by kernel_rfl) (fun _ _ _ _ h => h) hS ?_; refine ⟨_, y_slice _ _ _ _ _ (by rfl) (by rfl) (fun W _ => hs2.out W), ?_⟩; simp only [Act.put, List.setIfInBounds_toArray, List.set_cons_zero, List.set_cons_succ])
  refine T_all [1] (by kernel_rfl) (by decide) ?_
  intro j hj
  simp only [List.mem_cons, List.mem_nil_iff, or_false, List.not_mem_nil] at hj
  subst hj
  refine T_op rfl (by rfl) ?_
  refine wp_build0 _ 38 (by rfl) 3 Try.underlying27 (by kernel_rfl) w.heap.size (by omega) ?_
  intro w2 hown hb2' hz2
  have hb2 : Below w.heap.size w w2 := hb1.trans (hb2'.mono (by omega))
  refine ⟨.inr (HS.out _ hb2), ?_⟩
  simp only [Act.put, List.setIfInBounds_toArray, List.set_cons_zero, List.set_cons_succ]
  refine T_all [8] (by kernel_rfl) (by decide) ?_
  intro j hj
  simp only [List.mem_cons, List.mem_nil_iff, or_false, List.not_mem_nil] at hj
  subst hj
  refine T_op rfl (by rfl) ?_
  refine wp_append_rd _ _ _ (by rfl) w.heap.size 38 (.agg #[.int .i64 0, .int .i64 0, .int .i64 0]) 3 24 Try.underlying27 (by kernel_rfl) ⟨rfl, by decide⟩ (.slice (some ⟨w1.heap.size, 0, none⟩) 0 0) 0 [] (by rfl) hown A1 k cap (L1.map R3.cells) (by rfl) (hR1.below hb2) ⟨by rw [List.length_map, hl1], r3_ok _⟩ hn1 ⟨by unfold maxLen; omega, by omega⟩ (by omega) ?_
  intro v1 w3 hown1 hb3' hz3 hk3
  have hb3 : Below w.heap.size w w3 := hb2.trans hb3'
  refine ⟨.inr (HS.out _ hb3), ?_⟩
  simp only [Act.put, List.setIfInBounds_toArray, List.set_cons_zero, List.set_cons_succ]
  refine T_all [16] (by kernel_rfl) (by decide) ?_
  intro j hj
  simp only [List.mem_cons, List.mem_nil_iff, or_false, List.not_mem_nil] at hj
  subst hj
  refine T_op rfl (by rfl) ?_
  refine wp_append_rd _ _ _ (by rfl) w.heap.size 38 (.agg #[.int .i64 0, .int .i64 0, .int .i64 0]) 3 24 Try.underlying27 (by kernel_rfl) ⟨rfl, by decide⟩ v1 (0 + k) _ (by rfl) hown1 A2 (n - (k + 1)) (cap - (k + 1)) (L2.map R3.cells) (by rfl) (hR2.below hb3) ⟨by rw [List.length_map, hl2], r3_ok _⟩ hn2 ⟨by unfold maxLen; omega, by omega⟩ (by omega) ?_
  intro v2 w5 hown2 hb5' hz5 hk5
  have hb5 : Below w.heap.size w w5 := hb3.trans hb5'
  refine ⟨.inr (HS.out _ hb5), ?_⟩
  simp only [Act.put, List.setIfInBounds_toArray, List.set_cons_zero, List.set_cons_succ]
  have hS := HS.out _ hb5
  refine T_all [17] (by kernel_rfl) (by decide) ?_
  intro j hj
  simp only [List.mem_cons, List.mem_nil_iff, or_false, List.not_mem_nil] at hj
  subst hj
  refine T_op rfl (by rfl) (wp_calm (v := .pointer (some ⟨rb, 0, none⟩)) (by go_simp; done) ⟨.inr hS, ?_⟩)
  simp only [Act.put, List.setIfInBounds_toArray, List.set_cons_zero, List.set_cons_succ]
  (refine T_take (i := 18) rfl (by kernel_rfl) (fun _ _ _ _ h => h) hS ?_; apply Exists.intro; refine ⟨.inl ⟨by rfl, fun W hW => ?_⟩, ?_⟩; (next => (obtain ⟨hs1, hs2⟩ := hW; go_simp; first | done | rfl)); simp only [Act.put, List.setIfInBounds_toArray, List.set_cons_zero, List.set_cons_succ])
  refine T_all [19] (by kernel_rfl) (by decide) ?_
  intro j hj
  simp only [List.mem_cons, List.mem_nil_iff, or_false, List.not_mem_nil] at hj
  subst hj
  refine T_op rfl (by rfl) ?_
  have hd5 : Blk w5 rb 29 #[.slice A n cap] := hd0.ext hb5
  refine wp_store_fld _ _ _ (by rfl) rb 0 (by rfl) v2 (by rfl) _ _ hd5 (by simp) (by kernel_rfl) (owns_cellsR hown2).1 (owns_cellsR hown2).2 ?_
  intro w6 hst hus
  refine ⟨.inl rfl, ?_⟩
  simp only [Act.put, List.setIfInBounds_toArray, List.set_cons_zero, List.set_cons_succ]
  refine T_done (by kernel_rfl) ?_
  go_wp2_with fail
  go_ret
  have e1 : (L1 ++ L2).length = 0 + k + (n - (k + 1)) := by simp [hl1, hl2]
  have e2 : flatR (L1 ++ L2) = [] ++ (L1.map R3.cells).flatten ++ (L2.map R3.cells).flatten := by simp [flatR]
  have hown3 : w5.ownsRow w.heap.size 38 3 v2 (L1 ++ L2).length (flatR (L1 ++ L2)) := by rw [e1, e2]; exact hown2
  exact ⟨rfl, Rq.of_owns hown3 (by omega) hst hus hrl, (ButL.of_below hb5).upd (by simp) hus⟩
theorem clear_take_same {L : List R3} {k : Nat} (hk : k < L.length) {s : Int} (h : L[k].sym = s) : clearR (L.take (k + 1)) s = clearR (L.take k) s ∧ cntS (L.take (k + 1)) s = cntS (L.take k) s + 1 := by
  rw [List.take_succ_eq_append_getElem hk]
  unfold clearR cntS
  rw [List.filter_append, List.filter_append]
  simp [h]
theorem clear_take_new {L : List R3} {k : Nat} (hk : k < L.length) {s : Int} (h : L[k].sym ≠ s) : clearR (L.take (k + 1)) s = clearR (L.take k) s ++ [L[k]] ∧ cntS (L.take (k + 1)) s = cntS (L.take k) s := by
  rw [List.take_succ_eq_append_getElem hk]
  unfold clearR cntS
  rw [List.filter_append, List.filter_append]
  simp [h]
theorem rclear_any (q : Rq w rb L A cap) (s : Int) : Calls Try.prog 17 #[.pointer (some ⟨rb, 0, none⟩), .int .i64 s] w fun e w' => e = .returned (.int .i64 (cntS L s)) ∧ (∃ A' cap', Rq w' rb (clearR L s) A' cap') ∧ ButL [rb] w.heap.size w w' := by
  have hlen := q.len
  have hrl := q.hd.lt
  go_enter Try.func17, Try.ntmps17
  go_wp2_with fail
  go_loopw [5, 6, 7] (fun v c i wr => ∃ (k : Nat) (vv : Value), v = vv ∧ c = .int .i64 (cntS (L.take k) s) ∧ i = .int .i64 k ∧ k ≤ L.length ∧ wr.ownsRow w.heap.size 38 3 vv (clearR (L.take k) s).length (flatR (clearR (L.take k) s)) ∧ Below w.heap.size w wr) (fun _ _ i _ => L.length - (intOf i).toNat)
  case atStart => exact ⟨0, _, rfl, rfl, rfl, Nat.zero_le _, World.ownsRow_nil _ _ _ _, Below.refl _ _⟩
  case round =>
    obtain ⟨k, vv, rfl, rfl, rfl, hk, hown, hb⟩ := hrel
    have qr := q.ext hb
    have c0 : wr.cell? ⟨rb, 0, none⟩ = some (.slice A L.length cap) := qr.hd.cell 0
    have hcl := cntS_le (L.take k) s
    have hcl2 : cntS (L.take k) s ≤ 500 := by simp at hcl; omega
    have hll : (clearR (L.take k) s).length ≤ 500 := Nat.le_trans (List.length_filter_le _ _) (by simp; omega)
    by_cases hlt : k < L.length
    · have e1 : (k : Int) < (L.length : Int) := by omega
      obtain ⟨b, o, rfl, hrg, h0, h1, h2⟩ := qr.at hlt
      by_cases hs : L[k].sym = s
      · obtain ⟨H1, H2⟩ := clear_take_same hlt hs
        have H1 := Lib.hid H1
        have H2 := Lib.hid H2
        rw [hs] at h0
        generalize cntS (L.take k) s = c at *
        go_wp2_with fail
        go_roundw
        case rel => exact ⟨k + 1, _, rfl, by rw [H2.out]; go_num, by go_num, by omega, by rw [H1.out]; exact hown, hb⟩
        case measure => simp [intOf]; omega
      · obtain ⟨H1, H2⟩ := clear_take_new hlt hs
        have H1 := Lib.hid H1
        have H2 := Lib.hid H2
        have hne : (L[k].sym == s) = false := by simpa using hs
        obtain ⟨b', o', e', hrg0, h00, _, _⟩ := q.at hlt
        cases e'
        have hbl := cell_lt h00
        clear hs h00
        generalize cntS (L.take k) s = c at *
        generalize clearR (L.take k) s = M at *
        generalize L[k] = x at *
        go_wp2_with (first | (refine wpList_build1 (by rfl) 27 38 _ (by rfl) (.agg #[.int .i64 0, .int .i64 0, .int .i64 0]) 3 Try.underlying27 (by kernel_rfl) ⟨by decide, by decide⟩ (.agg #[.int .i64 x.sym, .int .i64 x.id, .int .i64 x.slot]) (by rfl) #[.int .i64 x.sym, .int .i64 x.id, .int .i64 x.slot] (by kernel_rfl) ?_; intro w4 hB4 hb4 hz4'; have hz4 := Lib.hid hz4'; clear hz4'; have hown4 := owns_ext hown hb4) | (refine wpList_append_rd (by rfl) _ _ _ (by rfl) w.heap.size 38 (.agg #[.int .i64 0, .int .i64 0, .int .i64 0]) 3 24 Try.underlying27 (by kernel_rfl) ⟨rfl, by decide⟩ _ M.length _ (by rfl) hown4 (some ⟨wr.heap.size, 0, none⟩) 1 1 [x.cells] (by rfl) ?_ ⟨rfl, by simp [R3.cells, Value.oneCell']⟩ (fun e => by cases e) ?_ ?_ ?_; (next => exact rd_own hB4 (by simp [R3.cells]) (n := 1) (by simp [R3.cells])); (next => unfold maxLen; omega); (next => have h1 := hz4.out; have h2 := hb.size; omega); intro v5 w5 hown5 hb5' hz5 hk5; have hb05 : Below w.heap.size w w5 := (hb.trans (hb4.mono hb.size)).trans hb5') | fail)
        go_roundw
        case rel => exact ⟨k + 1, _, rfl, by rw [H2.out], by go_num, by omega, by rw [H1.out, List.length_append, flatR_app]; simpa [flatR] using hown5, hb05⟩
        case measure => simp [intOf]; omega
    · have ht : L.take k = L := List.take_of_length_le (by omega)
      rw [ht] at hown hll ⊢
      have hd := qr.hd
      have HO := Lib.hid hown
      clear qr
      go_wp2_with (first | (refine wpList_store_fld (by rfl) _ _ _ (by rfl) _ _ (by rfl) _ (by rfl) _ _ hd ?_ ?_ (owns_cellsR hown).1 (owns_cellsR hown).2 ?_; (next => first | omega | ((try simp) <;> omega)); (next => kernel_rfl); intro w6 hd6 hU6) | fail)
      go_ret
      exact ⟨rfl, Rq.of_owns HO.out hll hd6 hU6 hrl, (ButL.of_below hb).upd (by simp) hU6⟩
/-! ### Of -/
def insR (r : R3) (l : List R3) : List R3 := l.takeWhile (fun x => decide (x.id < r.id)) ++ r :: l.dropWhile (fun x => decide (x.id < r.id))
def ofR (L : List R3) (s : Int) : List R3 := (L.filter fun r => decide (r.sym = s)).foldl (fun acc r => insR r acc) []
theorem of_take_new {L : List R3} {k : Nat} (hk : k < L.length) {s : Int} (h : L[k].sym = s) : ofR (L.take (k + 1)) s = insR L[k] (ofR (L.take k) s) := by
  rw [List.take_succ_eq_append_getElem hk]
  unfold ofR
  rw [List.filter_append, List.foldl_append]
  simp [h]
theorem of_take_same {L : List R3} {k : Nat} (hk : k < L.length) {s : Int} (h : L[k].sym ≠ s) : ofR (L.take (k + 1)) s = ofR (L.take k) s := by
  rw [List.take_succ_eq_append_getElem hk]
  unfold ofR
  rw [List.filter_append, List.foldl_append]
  simp [h]
/-- Where the first that is not below stands. -/
theorem cutAt (r : R3) : ∀ l : List R3, ∃ t, t ≤ l.length ∧ (∀ j (h : j < l.length), j < t → l[j].id < r.id) ∧ (∀ h : t < l.length, ¬ l[t].id < r.id) ∧ insR r l = l.take t ++ r :: l.drop t
  | [] => ⟨0, Nat.le_refl _, fun j h => by simp at h, fun h => by simp at h, rfl⟩
  | x :: l => by
    by_cases e : x.id < r.id
    · obtain ⟨t, h1, h2, h3, h4⟩ := cutAt r l
      refine ⟨t + 1, by simpa using h1, fun j hj hjt => ?_, fun h => by simpa using h3 (by simpa using h), ?_⟩
      · cases j with
        | zero => simpa using e
        | succ j => simpa using h2 j (by simpa using hj) (by omega)
      · have h5 : insR r (x :: l) = x :: insR r l := by simp [insR, e]
        rw [h5, h4]
        simp
    · exact ⟨0, Nat.zero_le _, fun j h h0 => by omega, fun h => by simpa using e, by simp [insR, e]⟩
theorem insR_len (r : R3) (l : List R3) : (insR r l).length = l.length + 1 := by
  obtain ⟨t, h1, _, _, h4⟩ := cutAt r l
  rw [h4]
  simp
  omega
theorem foldl_len : ∀ (l acc : List R3), (l.foldl (fun acc r => insR r acc) acc).length = acc.length + l.length
  | [], acc => by simp
  | r :: l, acc => by
    rw [List.foldl_cons, foldl_len l, insR_len]
    simp
    omega
theorem of_len (L : List R3) (s : Int) : (ofR L s).length = cntS L s := by
  unfold ofR cntS
  rw [foldl_len]
  simp
theorem owns_mono {W : World} {B B' : Nat} {e : TypeId} {size n : Nat} {v : Value} {xs : List Value} (h : W.ownsRow B' e size v n xs) (hB : B ≤ B') : W.ownsRow B e size v n xs := by
  refine ⟨h.1, ?_⟩
  rcases h.2 with h0 | ⟨g, cap, cur, hv, hb, h1⟩
  · exact .inl h0
  · exact .inr ⟨g, cap, cur, hv, Nat.le_trans hB hb, h1⟩
def SO (rb b o k n cap : Nat) (x : R3) (W : World) : Prop := W.cell? ⟨rb, 0, none⟩ = some (.slice (some ⟨b, o, none⟩) n cap) ∧ (W.cell? ⟨b, o + k * 3, none⟩ = some (.int .i64 x.sym) ∧ W.cell? ⟨b, o + k * 3 + 1, none⟩ = some (.int .i64 x.id) ∧ W.cell? ⟨b, o + k * 3 + 2, none⟩ = some (.int .i64 x.slot))
theorem owned_ins {W : World} {B : Nat} {v : Value} {M1 M2 : List R3} {x : R3} {t N : Nat} (h : W.ownsRow B 38 3 v (0 + t + 1 + (N - t)) (([] ++ (M1.map R3.cells).flatten) ++ [x.cells].flatten ++ (M2.map R3.cells).flatten)) (h1 : M1.length = t) (h2 : M2.length = N - t) : W.ownsRow B 38 3 v (M1 ++ x :: M2).length (flatR (M1 ++ x :: M2)) := by
  have e1 : (M1 ++ x :: M2).length = 0 + t + 1 + (N - t) := by simp [h1, h2]; omega
  have e2 : flatR (M1 ++ x :: M2) = ([] ++ (M1.map R3.cells).flatten) ++ [x.cells].flatten ++ (M2.map R3.cells).flatten := by simp [flatR]
  rw [e1, e2]
  exact h
theorem rof_any (q : Rq w rb L A cap) (s : Int) : Calls Try.prog 7 #[.pointer (some ⟨rb, 0, none⟩), .int .i64 s] w fun e w' => (∃ v, e = .returned v ∧ w'.ownsRow w.heap.size 38 3 v (ofR L s).length (flatR (ofR L s))) ∧ Below w.heap.size w w' := by
  have hlen := q.len
  have hrl := q.hd.lt
  go_enter Try.func7, Try.ntmps7
  go_wp2_with fail
  go_loopw [5, 6] (fun v i wr => ∃ (k : Nat) (vv : Value), v = vv ∧ i = .int .i64 k ∧ k ≤ L.length ∧ wr.ownsRow w.heap.size 38 3 vv (ofR (L.take k) s).length (flatR (ofR (L.take k) s)) ∧ Below w.heap.size w wr) (fun _ i _ => L.length - (intOf i).toNat)
  case atStart => exact ⟨0, _, rfl, rfl, Nat.zero_le _, World.ownsRow_nil _ _ _ _, Below.refl _ _⟩
  case round =>
    obtain ⟨k, vv, rfl, rfl, hk, hown, hb⟩ := hrel
    have qr := q.ext hb
    have c0 : wr.cell? ⟨rb, 0, none⟩ = some (.slice A L.length cap) := qr.hd.cell 0
    have hll : (ofR (L.take k) s).length ≤ 500 := by rw [of_len]; exact Nat.le_trans (cntS_le _ _) (by simp; omega)
    by_cases hlt : k < L.length
    · have e1 : (k : Int) < (L.length : Int) := by omega
      obtain ⟨b, o, rfl, hrg, h0, h1, h2⟩ := qr.at hlt
      by_cases hs : L[k].sym = s
      · have H1 := Lib.hid (of_take_new hlt hs)
        rw [hs] at h0
        obtain ⟨A0, cap1, rfl, hrd, hfit, hnil, hfar⟩ := owns_r3 hown
        obtain ⟨t, ht1, ht2, ht3, ht4⟩ := cutAt L[k] (ofR (L.take k) s)
        obtain ⟨b9, o9, e9, hrg9, g0, g1, g2⟩ := q.at hlt
        cases e9
        have hbl := cell_lt g0
        have H4 := Lib.hid ht4
        have hz0 := hb.size
        clear ht4 hown
        generalize ofR (L.take k) s = M at *
        have hx1 : L[k].sym = s := hs
        generalize L[k] = x at *
        go_wp2_with fail
        obtain ⟨wo, hwo⟩ : ∃ W, W = wr := ⟨_, rfl⟩
        subst hwo
        go_loopw [7] (fun j wj => ∃ m : Nat, j = .int .i64 m ∧ m ≤ t ∧ Below wo.heap.size wo wj) (fun j _ => t + 1 - (intOf j).toNat)
        case atStart => exact ⟨0, rfl, Nat.zero_le _, Below.refl _ _⟩
        case round =>
          obtain ⟨m, rfl, hm, hbj⟩ := hrel
          have hzj := hbj.size
          have c0j : wr.cell? ⟨rb, 0, none⟩ = some (.slice (some ⟨b, o, none⟩) L.length cap) := ((q.ext hb).ext hbj).hd.cell 0
          have h1j : wr.cell? ⟨b, o + k * 3 + 1, none⟩ = some (.int .i64 x.id) := (hbj.cell (p := ⟨b, o + k * 3 + 1, none⟩) (cell_lt h1)).trans h1
          have lj1 : rb < wr.heap.size := by omega
          have lj2 : b < wr.heap.size := by omega
          by_cases hmt : m < t
          · have hmM : m < M.length := by omega
            obtain ⟨b1, o1, rfl, hc1⟩ := hrd.at hmM
            have hi0 : wo.cell? ⟨b1, o1 + m * 3 + 1, none⟩ = some (.int .i64 M[m].id) := by have := hc1 1 _ rfl; rwa [← Nat.add_assoc] at this
            have hi1 : wr.cell? ⟨b1, o1 + m * 3 + 1, none⟩ = some (.int .i64 M[m].id) := (hbj.cell (p := ⟨b1, o1 + m * 3 + 1, none⟩) (cell_lt hi0)).trans hi0
            have lj3 : b1 < wr.heap.size := cell_lt hi1
            have e2 : (m : Int) < (M.length : Int) := by omega
            have e3 : M[m].id < x.id := ht2 m hmM hmt
            have e4 : decide (M[m].id < x.id) = true := decide_eq_true e3
            have e5 : decide ((m : Int) < (M.length : Int)) = true := decide_eq_true e2
            clear hc1 hi0
            go_wp2_with fail
            refine wp_region_below_lit (by kernel_rfl) (by kernel_rfl) ?_
            repeat (first | go_big_quiet_skip | (go_big_quiet_want; go_big_quiet_op; go_big_quiet_on) | (refine q_load_fld (by rfl) _ _ (by rfl) (fun _ h => h) _ _ (by rfl) ?_ ?_ ?_ ?_ ?_ ?_; rotate_left; (next => (repeat (first | (with_reducible refine BlkAt.new _ _ _ _ ?_; ((try simp) <;> omega)) | (with_reducible assumption) | (with_reducible refine Blk.at (t := ?_) ?_; rotate_left; with_reducible assumption) | with_reducible refine BlkAt.alloc ?_ _ | with_reducible refine BlkAt.drew ?_ | (with_reducible refine BlkAt.setSame ?_ _ _) | (with_reducible refine BlkAt.setCell ?_ ?_ _; rotate_left; ((try simp) <;> omega)) | (with_reducible refine BlkAt.ext (w := ?_) ?_ ?_; rotate_left 2; (with_reducible assumption)) | fail))); rotate_left; (next => first | (simp only [go_sem]; rfl) | rfl); (next => kernel_rfl); (try simp only [Act.put, List.setIfInBounds_toArray, List.set_cons_zero, List.set_cons_succ])) | (refine q_rem (by rfl) _ _ _ _ (by rfl) _ _ (by rfl) (by rfl) (by kernel_rfl) (by kernel_rfl) ?_ ?_; (next => omega); (try simp only [Act.put, List.setIfInBounds_toArray, List.set_cons_zero, List.set_cons_succ])) | (refine q_step_ex (by rfl) ?_; apply Exists.intro; refine ⟨fun W hW => ?_, ?_⟩; (next => (have hWc := fun (b o : Nat) (h : b < _) => (Ext.out hW).cell (p := ⟨b, o, none⟩) h); (try have hLK := HLK.out W (Ext.out hW)); go_simp; first | rfl | fail | fail); (try simp only [Act.put, List.setIfInBounds_toArray, List.set_cons_zero, List.set_cons_succ])) | fail)
            refine wpQuiet_nil ?_
            intro w8 hb8
            go_wp2_with fail
            go_roundw
            case rel => exact ⟨m + 1, by go_num, by omega, below_ext hbj hb8⟩
            case measure => simp [intOf]; omega
          · obtain rfl : m = t := by omega
            by_cases hmM : m < M.length
            · obtain ⟨b1, o1, rfl, hc1⟩ := hrd.at hmM
              have hi0 : wo.cell? ⟨b1, o1 + m * 3 + 1, none⟩ = some (.int .i64 M[m].id) := by have := hc1 1 _ rfl; rwa [← Nat.add_assoc] at this
              have hi1 : wr.cell? ⟨b1, o1 + m * 3 + 1, none⟩ = some (.int .i64 M[m].id) := (hbj.cell (p := ⟨b1, o1 + m * 3 + 1, none⟩) (cell_lt hi0)).trans hi0
              have lj3 : b1 < wr.heap.size := cell_lt hi1
              have e2 : (m : Int) < (M.length : Int) := by omega
              have e3 : ¬ M[m].id < x.id := by have := ht3 hmM; omega
              have e4 : decide (M[m].id < x.id) = false := decide_eq_false e3
              have e5 : decide ((m : Int) < (M.length : Int)) = true := decide_eq_true e2
              clear hc1 hi0
              go_wp2_with fail
              refine wp_region_below_lit (by kernel_rfl) (by kernel_rfl) ?_
              repeat (first | go_big_quiet_skip | (go_big_quiet_want; go_big_quiet_op; go_big_quiet_on) | (refine q_load_fld (by rfl) _ _ (by rfl) (fun _ h => h) _ _ (by rfl) ?_ ?_ ?_ ?_ ?_ ?_; rotate_left; (next => (repeat (first | (with_reducible refine BlkAt.new _ _ _ _ ?_; ((try simp) <;> omega)) | (with_reducible assumption) | (with_reducible refine Blk.at (t := ?_) ?_; rotate_left; with_reducible assumption) | with_reducible refine BlkAt.alloc ?_ _ | with_reducible refine BlkAt.drew ?_ | (with_reducible refine BlkAt.setSame ?_ _ _) | (with_reducible refine BlkAt.setCell ?_ ?_ _; rotate_left; ((try simp) <;> omega)) | (with_reducible refine BlkAt.ext (w := ?_) ?_ ?_; rotate_left 2; (with_reducible assumption)) | fail))); rotate_left; (next => first | (simp only [go_sem]; rfl) | rfl); (next => kernel_rfl); (try simp only [Act.put, List.setIfInBounds_toArray, List.set_cons_zero, List.set_cons_succ])) | (refine q_rem (by rfl) _ _ _ _ (by rfl) _ _ (by rfl) (by rfl) (by kernel_rfl) (by kernel_rfl) ?_ ?_; (next => omega); (try simp only [Act.put, List.setIfInBounds_toArray, List.set_cons_zero, List.set_cons_succ])) | (refine q_step_ex (by rfl) ?_; apply Exists.intro; refine ⟨fun W hW => ?_, ?_⟩; (next => (have hWc := fun (b o : Nat) (h : b < _) => (Ext.out hW).cell (p := ⟨b, o, none⟩) h); (try have hLK := HLK.out W (Ext.out hW)); go_simp; first | rfl | fail | fail); (try simp only [Act.put, List.setIfInBounds_toArray, List.set_cons_zero, List.set_cons_succ])) | fail)
              refine wpQuiet_nil ?_
              intro w8 hb8
              go_wp2_with fail
              have hb08 := below_ext hbj hb8
              obtain ⟨A1, hn1, hr1, hs1'⟩ := cut_head (some ⟨b1, o1, none⟩) M.length cap1 m (by omega) hnil
              obtain ⟨A2, hn2, hr2, hs2'⟩ := cut_tail (some ⟨b1, o1, none⟩) M.length cap1 m (by omega) hfit hnil
              have hs1 := Lib.hid hs1'
              have hs2 := Lib.hid hs2'
              have hl1 : (M.take m).length = m := by simp; omega
              have hl2 : (M.drop m).length = M.length - m := by simp
              have HT : Hid (insR x M = M.take m ++ x :: M.drop m) := H4
              have hbd : Below wo.heap.size wo w8.drew := hb08.drew
              have hzd : w8.drew.heap.size = w8.heap.size := rfl
              refine wp_region_T (S := SO rb b o k L.length cap x) 18 (by kernel_rfl) ?_
              generalize w8.drew = w1 at hbd hzd ⊢
              have hzo := hbd.size
              have hbw : Below w.heap.size w w1 := hb.trans (hbd.mono hz0)
              have hwz1 : w.heap.size ≤ w1.heap.size := hbw.size
              have HR1 : Hid (∀ W, Below w1.heap.size w1 W → Rd W 3 A1 ((M.take m).map R3.cells)) := Lib.hid (fun W hW => hr1 W (M.take m) (M.drop m) (by rw [List.take_append_drop]; exact (hrd.below hbd).below hW))
              have HR2 : Hid (∀ W, Below w1.heap.size w1 W → Rd W 3 A2 ((M.drop m).map R3.cells)) := Lib.hid (fun W hW => hr2 W (M.take m) (M.drop m) hl1 (by rw [List.take_append_drop]) (by rw [List.take_append_drop]; exact (hrd.below hbd).below hW))
              have HS : Hid (∀ W, Below w1.heap.size w1 W → SO rb b o k L.length cap x W) := Lib.hid (fun W hW => ⟨((q.ext hbw).ext hW).hd.cell 0, ((hbw.trans (hW.mono hwz1)).cell (p := ⟨b, o + k * 3, none⟩) hbl).trans g0, ((hbw.trans (hW.mono hwz1)).cell (p := ⟨b, o + k * 3 + 1, none⟩) hbl).trans g1, ((hbw.trans (hW.mono hwz1)).cell (p := ⟨b, o + k * 3 + 2, none⟩) hbl).trans g2⟩)
              have hbw1 : Below w1.heap.size w1 w1 := Below.refl _ _
              have hzw1 : w1.heap.size ≤ w1.heap.size := Nat.le_refl _
              generalize M.take m = M1 at *
              generalize M.drop m = M2 at *
              clear hs1' hs2' hr1 hr2 c0j h1j hrg hrg9 c0 h0 h1 h2 qr hs hx1
              have hS := HS.out _ hbw1
              (refine T_take (i := 1) rfl (by kernel_rfl) (fun _ _ _ _ h => h) hS ?_; apply Exists.intro; refine ⟨.inl ⟨by rfl, fun W hW => ?_⟩, ?_⟩; (next => (obtain ⟨hs1, hs2⟩ := hW; go_simp; first | done | rfl)); simp only [Act.put, List.setIfInBounds_toArray, List.set_cons_zero, List.set_cons_succ])
              (refine T_take (i := 2) rfl (by kernel_rfl) (fun _ _ _ _ h => h) hS ?_; apply Exists.intro; refine ⟨.inl ⟨by rfl, fun W hW => ?_⟩, ?_⟩; (next => (obtain ⟨hs1, hs2⟩ := hW; go_simp; first | done | rfl)); simp only [Act.put, List.setIfInBounds_toArray, List.set_cons_zero, List.set_cons_succ])
              (refine T_take (i := 5) rfl (by kernel_rfl) (fun _ _ _ _ h => h) hS ?_; apply Exists.intro; refine ⟨.inl ⟨by rfl, fun W hW => ?_⟩, ?_⟩; (next => (obtain ⟨hs1, hs2⟩ := hW; go_simp; first | done | rfl)); simp only [Act.put, List.setIfInBounds_toArray, List.set_cons_zero, List.set_cons_succ])
              (refine T_take (i := 6) rfl (by kernel_rfl) (fun _ _ _ _ h => h) hS ?_; apply Exists.intro; refine ⟨.inl ⟨by rfl, fun W hW => ?_⟩, ?_⟩; (next => (obtain ⟨hs1, hs2⟩ := hW; go_simp; first | done | rfl)); simp only [Act.put, List.setIfInBounds_toArray, List.set_cons_zero, List.set_cons_succ])
              (refine T_take (i := 7) rfl (by kernel_rfl) (fun _ _ _ _ h => h) hS ?_; apply Exists.intro; refine ⟨.inl ⟨by rfl, fun W hW => ?_⟩, ?_⟩; (next => (obtain ⟨hs1, hs2⟩ := hW; go_simp; first | done | rfl)); simp only [Act.put, List.setIfInBounds_toArray, List.set_cons_zero, List.set_cons_succ])
              (refine T_take (i := 8) rfl (by kernel_rfl) (fun _ _ _ _ h => h) hS ?_; apply Exists.intro; refine ⟨.inl ⟨by rfl, fun W hW => ?_⟩, ?_⟩; (next => (obtain ⟨hs1, hs2⟩ := hW; go_simp; first | done | rfl)); simp only [Act.put, List.setIfInBounds_toArray, List.set_cons_zero, List.set_cons_succ])
              (refine T_take (i := 9) rfl (by kernel_rfl) (fun _ _ _ _ h => h) hS ?_; apply Exists.intro; refine ⟨.inl ⟨by rfl, fun W hW => ?_⟩, ?_⟩; (next => (obtain ⟨hs1, hs2⟩ := hW; go_simp; first | done | rfl)); simp only [Act.put, List.setIfInBounds_toArray, List.set_cons_zero, List.set_cons_succ])
              (refine T_take (i := 10) rfl (by kernel_rfl) (fun _ _ _ _ h => h) hS ?_; apply Exists.intro; refine ⟨.inl ⟨by rfl, fun W hW => ?_⟩, ?_⟩; (next => (obtain ⟨hs1, hs2⟩ := hW; go_simp; first | done | rfl)); simp only [Act.put, List.setIfInBounds_toArray, List.set_cons_zero, List.set_cons_succ])
              (refine T_take (i := 11) rfl (by kernel_rfl) (fun _ _ _ _ h => h) hS ?_; apply Exists.intro; refine ⟨.inl ⟨by rfl, fun W hW => ?_⟩, ?_⟩; (next => (obtain ⟨hs1, hs2⟩ := hW; go_simp; first | done | rfl)); simp only [Act.put, List.setIfInBounds_toArray, List.set_cons_zero, List.set_cons_succ])
              (refine T_take (i := 14) rfl (by kernel_rfl) (fun _ _ _ _ h => h) hS ?_; apply Exists.intro; refine ⟨.inl ⟨by rfl, fun W hW => ?_⟩, ?_⟩; (next => (obtain ⟨hs1, hs2⟩ := hW; go_simp; first | done | rfl)); simp only [Act.put, List.setIfInBounds_toArray, List.set_cons_zero, List.set_cons_succ])
              (refine T_take (i := 15) rfl (by kernel_rfl) (fun _ _ _ _ h => h) hS ?_; apply Exists.intro; refine ⟨.inl ⟨by rfl, fun W hW => ?_⟩, ?_⟩; (next => (obtain ⟨hs1, hs2⟩ := hW; go_simp; first | done | rfl)); simp only [Act.put, List.setIfInBounds_toArray, List.set_cons_zero, List.set_cons_succ])
              (refine T_take (i := 3) rfl (by kernel_rfl) (fun _ _ _ _ h => h) hS ?_; refine ⟨_, y_slice _ _ _ _ _ (by rfl) (by rfl) (fun W _ => hs1.out W), ?_⟩; simp only [Act.put, List.setIfInBounds_toArray, List.set_cons_zero, List.set_cons_succ])
              (refine T_take (i := 16) rfl (by kernel_rfl) (fun _ _ _ _ h => h) hS ?_; refine ⟨_, y_slice _ _ _ _ _ (by rfl) (by rfl) (fun W _ => hs2.out W), ?_⟩; simp only [Act.put, List.setIfInBounds_toArray, List.set_cons_zero, List.set_cons_succ])
              refine T_all [0, 12] (by kernel_rfl) (by decide) ?_
              intro j hj
              simp only [List.mem_cons, List.mem_nil_iff, or_false, List.not_mem_nil] at hj
              rcases hj with rfl | rfl
              · refine T_op rfl (by rfl) ?_
                refine wp_build0 _ 38 (by rfl) 3 Try.underlying27 (by kernel_rfl) w1.heap.size hzw1 ?_
                intro wa hown0 hbswa hzswa
                have hbwa : Below w1.heap.size w1 wa := hbw1.trans (hbswa.mono hzw1)
                have hzwa : w1.heap.size ≤ wa.heap.size := hbwa.size
                refine ⟨.inr (HS.out _ hbwa), ?_⟩
                simp only [Act.put, List.setIfInBounds_toArray, List.set_cons_zero, List.set_cons_succ]
                refine T_all [4, 12] (by kernel_rfl) (by decide) ?_
                intro j hj
                simp only [List.mem_cons, List.mem_nil_iff, or_false, List.not_mem_nil] at hj
                rcases hj with rfl | rfl
                · refine T_op rfl (by rfl) ?_
                  refine wp_append_rd _ _ _ (by rfl) w1.heap.size 38 (.agg #[.int .i64 0, .int .i64 0, .int .i64 0]) 3 24 Try.underlying27 (by kernel_rfl) ⟨rfl, by decide⟩ _ 0 [] (by rfl) hown0 A1 m cap1 (M1.map R3.cells) (by rfl) (HR1.out _ hbwa) ⟨by rw [List.length_map, hl1], r3_ok _⟩ hn1 ⟨by unfold maxLen; omega, by omega⟩ hzwa ?_
                  intro v1 wb hown1 hbswb hzswb hkwb
                  have hbwb : Below w1.heap.size w1 wb := hbwa.trans hbswb
                  have hzwb : w1.heap.size ≤ wb.heap.size := hbwb.size
                  refine ⟨.inr (HS.out _ hbwb), ?_⟩
                  simp only [Act.put, List.setIfInBounds_toArray, List.set_cons_zero, List.set_cons_succ]
                  refine T_all [12] (by kernel_rfl) (by decide) ?_
                  intro j hj
                  simp only [List.mem_cons, List.mem_nil_iff, or_false, List.not_mem_nil] at hj
                  subst hj
                  refine T_op rfl (by rfl) ?_
                  refine wp_build1 _ 38 _ (by rfl) (.agg #[.int .i64 0, .int .i64 0, .int .i64 0]) 3 Try.underlying27 (by kernel_rfl) ⟨by decide, by decide⟩ (.agg #[.int .i64 x.sym, .int .i64 x.id, .int .i64 x.slot]) (by rfl) #[.int .i64 x.sym, .int .i64 x.id, .int .i64 x.slot] (by kernel_rfl) ?_
                  intro wc hX hbswc hzswc
                  have hbwc : Below w1.heap.size w1 wc := hbwb.trans (hbswc.mono hzwb)
                  have hzwc : w1.heap.size ≤ wc.heap.size := hbwc.size
                  refine ⟨.inr (HS.out _ hbwc), ?_⟩
                  simp only [Act.put, List.setIfInBounds_toArray, List.set_cons_zero, List.set_cons_succ]
                  have hown1c := owns_ext hown1 hbswc
                  refine T_all [13] (by kernel_rfl) (by decide) ?_
                  intro j hj
                  simp only [List.mem_cons, List.mem_nil_iff, or_false, List.not_mem_nil] at hj
                  subst hj
                  refine T_op rfl (by rfl) ?_
                  refine wp_append_rd _ _ _ (by rfl) w1.heap.size 38 (.agg #[.int .i64 0, .int .i64 0, .int .i64 0]) 3 24 Try.underlying27 (by kernel_rfl) ⟨rfl, by decide⟩ v1 (0 + m) _ (by rfl) hown1c (some ⟨wb.heap.size, 0, none⟩) 1 1 [x.cells] (by rfl) (rd_own hX (by simp [R3.cells]) (n := 1) (by simp [R3.cells])) ⟨rfl, by simp [R3.cells, Value.oneCell']⟩ (fun e => by cases e) ⟨by unfold maxLen; omega, by omega⟩ hzwc ?_
                  intro v2 wy hown2 hbsy hzsy hky
                  have hby : Below w1.heap.size w1 wy := hbwc.trans hbsy
                  have hzy : w1.heap.size ≤ wy.heap.size := hby.size
                  refine ⟨.inr (HS.out _ hby), ?_⟩
                  simp only [Act.put, List.setIfInBounds_toArray, List.set_cons_zero, List.set_cons_succ]
                  refine T_all [17] (by kernel_rfl) (by decide) ?_
                  intro j hj
                  simp only [List.mem_cons, List.mem_nil_iff, or_false, List.not_mem_nil] at hj
                  subst hj
                  refine T_op rfl (by rfl) ?_
                  refine wp_append_rd _ _ _ (by rfl) w1.heap.size 38 (.agg #[.int .i64 0, .int .i64 0, .int .i64 0]) 3 24 Try.underlying27 (by kernel_rfl) ⟨rfl, by decide⟩ v2 (0 + m + 1) _ (by rfl) hown2 A2 (M.length - m) (cap1 - m) (M2.map R3.cells) (by rfl) (HR2.out _ hby) ⟨by rw [List.length_map, hl2], r3_ok _⟩ hn2 ⟨by unfold maxLen; omega, by omega⟩ hzy ?_
                  intro v3 wz hown3 hbsz hzsz hkz
                  have hbz : Below w1.heap.size w1 wz := hby.trans hbsz
                  have hzz : w1.heap.size ≤ wz.heap.size := hbz.size
                  refine ⟨.inr (HS.out _ hbz), ?_⟩
                  simp only [Act.put, List.setIfInBounds_toArray, List.set_cons_zero, List.set_cons_succ]
                  refine T_all [18] (by kernel_rfl) (by decide) ?_
                  intro j hj
                  simp only [List.mem_cons, List.mem_nil_iff, or_false, List.not_mem_nil] at hj
                  subst hj
                  refine T_op rfl (by rfl) (wp_calm (v := v3) (by go_simp; first | done | rfl) ⟨.inl rfl, ?_⟩)
                  simp only [Act.put, List.setIfInBounds_toArray, List.set_cons_zero, List.set_cons_succ]
                  refine T_done (by kernel_rfl) ?_
                  go_wp2_with fail
                  go_roundw
                  case rel => exact ⟨k + 1, _, rfl, by go_num, by omega, by rw [H1.out, HT.out]; exact owns_mono (owned_ins hown3 hl1 hl2) hwz1, hbw.trans (hbz.mono hwz1)⟩
                  case measure => simp [intOf]; omega
                · refine T_op rfl (by rfl) ?_
                  refine wp_build1 _ 38 _ (by rfl) (.agg #[.int .i64 0, .int .i64 0, .int .i64 0]) 3 Try.underlying27 (by kernel_rfl) ⟨by decide, by decide⟩ (.agg #[.int .i64 x.sym, .int .i64 x.id, .int .i64 x.slot]) (by rfl) #[.int .i64 x.sym, .int .i64 x.id, .int .i64 x.slot] (by kernel_rfl) ?_
                  intro wb hX hbswb hzswb
                  have hbwb : Below w1.heap.size w1 wb := hbwa.trans (hbswb.mono hzwa)
                  have hzwb : w1.heap.size ≤ wb.heap.size := hbwb.size
                  refine ⟨.inr (HS.out _ hbwb), ?_⟩
                  simp only [Act.put, List.setIfInBounds_toArray, List.set_cons_zero, List.set_cons_succ]
                  have hown0b := owns_ext hown0 hbswb
                  refine T_all [4] (by kernel_rfl) (by decide) ?_
                  intro j hj
                  simp only [List.mem_cons, List.mem_nil_iff, or_false, List.not_mem_nil] at hj
                  subst hj
                  refine T_op rfl (by rfl) ?_
                  refine wp_append_rd _ _ _ (by rfl) w1.heap.size 38 (.agg #[.int .i64 0, .int .i64 0, .int .i64 0]) 3 24 Try.underlying27 (by kernel_rfl) ⟨rfl, by decide⟩ _ 0 [] (by rfl) hown0b A1 m cap1 (M1.map R3.cells) (by rfl) (HR1.out _ hbwb) ⟨by rw [List.length_map, hl1], r3_ok _⟩ hn1 ⟨by unfold maxLen; omega, by omega⟩ hzwb ?_
                  intro v1 wc hown1 hbswc hzswc hkwc
                  have hbwc : Below w1.heap.size w1 wc := hbwb.trans hbswc
                  have hzwc : w1.heap.size ≤ wc.heap.size := hbwc.size
                  refine ⟨.inr (HS.out _ hbwc), ?_⟩
                  simp only [Act.put, List.setIfInBounds_toArray, List.set_cons_zero, List.set_cons_succ]
                  have hXc : Blk wc wa.heap.size 38 _ := (hkwc _ (by have := hX.lt; omega) (fun e => by simp [Value.ownBlock] at e; omega)).trans hX
                  refine T_all [13] (by kernel_rfl) (by decide) ?_
                  intro j hj
                  simp only [List.mem_cons, List.mem_nil_iff, or_false, List.not_mem_nil] at hj
                  subst hj
                  refine T_op rfl (by rfl) ?_
                  refine wp_append_rd _ _ _ (by rfl) w1.heap.size 38 (.agg #[.int .i64 0, .int .i64 0, .int .i64 0]) 3 24 Try.underlying27 (by kernel_rfl) ⟨rfl, by decide⟩ v1 (0 + m) _ (by rfl) hown1 (some ⟨wa.heap.size, 0, none⟩) 1 1 [x.cells] (by rfl) (rd_own hXc (by simp [R3.cells]) (n := 1) (by simp [R3.cells])) ⟨rfl, by simp [R3.cells, Value.oneCell']⟩ (fun e => by cases e) ⟨by unfold maxLen; omega, by omega⟩ hzwc ?_
                  intro v2 wy hown2 hbsy hzsy hky
                  have hby : Below w1.heap.size w1 wy := hbwc.trans hbsy
                  have hzy : w1.heap.size ≤ wy.heap.size := hby.size
                  refine ⟨.inr (HS.out _ hby), ?_⟩
                  simp only [Act.put, List.setIfInBounds_toArray, List.set_cons_zero, List.set_cons_succ]
                  refine T_all [17] (by kernel_rfl) (by decide) ?_
                  intro j hj
                  simp only [List.mem_cons, List.mem_nil_iff, or_false, List.not_mem_nil] at hj
                  subst hj
                  refine T_op rfl (by rfl) ?_
                  refine wp_append_rd _ _ _ (by rfl) w1.heap.size 38 (.agg #[.int .i64 0, .int .i64 0, .int .i64 0]) 3 24 Try.underlying27 (by kernel_rfl) ⟨rfl, by decide⟩ v2 (0 + m + 1) _ (by rfl) hown2 A2 (M.length - m) (cap1 - m) (M2.map R3.cells) (by rfl) (HR2.out _ hby) ⟨by rw [List.length_map, hl2], r3_ok _⟩ hn2 ⟨by unfold maxLen; omega, by omega⟩ hzy ?_
                  intro v3 wz hown3 hbsz hzsz hkz
                  have hbz : Below w1.heap.size w1 wz := hby.trans hbsz
                  have hzz : w1.heap.size ≤ wz.heap.size := hbz.size
                  refine ⟨.inr (HS.out _ hbz), ?_⟩
                  simp only [Act.put, List.setIfInBounds_toArray, List.set_cons_zero, List.set_cons_succ]
                  refine T_all [18] (by kernel_rfl) (by decide) ?_
                  intro j hj
                  simp only [List.mem_cons, List.mem_nil_iff, or_false, List.not_mem_nil] at hj
                  subst hj
                  refine T_op rfl (by rfl) (wp_calm (v := v3) (by go_simp; first | done | rfl) ⟨.inl rfl, ?_⟩)
                  simp only [Act.put, List.setIfInBounds_toArray, List.set_cons_zero, List.set_cons_succ]
                  refine T_done (by kernel_rfl) ?_
                  go_wp2_with fail
                  go_roundw
                  case rel => exact ⟨k + 1, _, rfl, by go_num, by omega, by rw [H1.out, HT.out]; exact owns_mono (owned_ins hown3 hl1 hl2) hwz1, hbw.trans (hbz.mono hwz1)⟩
                  case measure => simp [intOf]; omega
              · refine T_op rfl (by rfl) ?_
                refine wp_build1 _ 38 _ (by rfl) (.agg #[.int .i64 0, .int .i64 0, .int .i64 0]) 3 Try.underlying27 (by kernel_rfl) ⟨by decide, by decide⟩ (.agg #[.int .i64 x.sym, .int .i64 x.id, .int .i64 x.slot]) (by rfl) #[.int .i64 x.sym, .int .i64 x.id, .int .i64 x.slot] (by kernel_rfl) ?_
                intro wa hX hbswa hzswa
                have hbwa : Below w1.heap.size w1 wa := hbw1.trans (hbswa.mono hzw1)
                have hzwa : w1.heap.size ≤ wa.heap.size := hbwa.size
                refine ⟨.inr (HS.out _ hbwa), ?_⟩
                simp only [Act.put, List.setIfInBounds_toArray, List.set_cons_zero, List.set_cons_succ]
                refine T_all [0] (by kernel_rfl) (by decide) ?_
                intro j hj
                simp only [List.mem_cons, List.mem_nil_iff, or_false, List.not_mem_nil] at hj
                subst hj
                refine T_op rfl (by rfl) ?_
                refine wp_build0 _ 38 (by rfl) 3 Try.underlying27 (by kernel_rfl) w1.heap.size hzwa ?_
                intro wb hown0 hbswb hzswb
                have hbwb : Below w1.heap.size w1 wb := hbwa.trans (hbswb.mono hzwa)
                have hzwb : w1.heap.size ≤ wb.heap.size := hbwb.size
                refine ⟨.inr (HS.out _ hbwb), ?_⟩
                simp only [Act.put, List.setIfInBounds_toArray, List.set_cons_zero, List.set_cons_succ]
                have hXb := hX.ext hbswb
                refine T_all [4] (by kernel_rfl) (by decide) ?_
                intro j hj
                simp only [List.mem_cons, List.mem_nil_iff, or_false, List.not_mem_nil] at hj
                subst hj
                refine T_op rfl (by rfl) ?_
                refine wp_append_rd _ _ _ (by rfl) w1.heap.size 38 (.agg #[.int .i64 0, .int .i64 0, .int .i64 0]) 3 24 Try.underlying27 (by kernel_rfl) ⟨rfl, by decide⟩ _ 0 [] (by rfl) hown0 A1 m cap1 (M1.map R3.cells) (by rfl) (HR1.out _ hbwb) ⟨by rw [List.length_map, hl1], r3_ok _⟩ hn1 ⟨by unfold maxLen; omega, by omega⟩ hzwb ?_
                intro v1 wc hown1 hbswc hzswc hkwc
                have hbwc : Below w1.heap.size w1 wc := hbwb.trans hbswc
                have hzwc : w1.heap.size ≤ wc.heap.size := hbwc.size
                refine ⟨.inr (HS.out _ hbwc), ?_⟩
                simp only [Act.put, List.setIfInBounds_toArray, List.set_cons_zero, List.set_cons_succ]
                have hXc : Blk wc w1.heap.size 38 _ := (hkwc _ (by have := hXb.lt; omega) (fun e => by simp [Value.ownBlock] at e; omega)).trans hXb
                refine T_all [13] (by kernel_rfl) (by decide) ?_
                intro j hj
                simp only [List.mem_cons, List.mem_nil_iff, or_false, List.not_mem_nil] at hj
                subst hj
                refine T_op rfl (by rfl) ?_
                refine wp_append_rd _ _ _ (by rfl) w1.heap.size 38 (.agg #[.int .i64 0, .int .i64 0, .int .i64 0]) 3 24 Try.underlying27 (by kernel_rfl) ⟨rfl, by decide⟩ v1 (0 + m) _ (by rfl) hown1 (some ⟨w1.heap.size, 0, none⟩) 1 1 [x.cells] (by rfl) (rd_own hXc (by simp [R3.cells]) (n := 1) (by simp [R3.cells])) ⟨rfl, by simp [R3.cells, Value.oneCell']⟩ (fun e => by cases e) ⟨by unfold maxLen; omega, by omega⟩ hzwc ?_
                intro v2 wy hown2 hbsy hzsy hky
                have hby : Below w1.heap.size w1 wy := hbwc.trans hbsy
                have hzy : w1.heap.size ≤ wy.heap.size := hby.size
                refine ⟨.inr (HS.out _ hby), ?_⟩
                simp only [Act.put, List.setIfInBounds_toArray, List.set_cons_zero, List.set_cons_succ]
                refine T_all [17] (by kernel_rfl) (by decide) ?_
                intro j hj
                simp only [List.mem_cons, List.mem_nil_iff, or_false, List.not_mem_nil] at hj
                subst hj
                refine T_op rfl (by rfl) ?_
                refine wp_append_rd _ _ _ (by rfl) w1.heap.size 38 (.agg #[.int .i64 0, .int .i64 0, .int .i64 0]) 3 24 Try.underlying27 (by kernel_rfl) ⟨rfl, by decide⟩ v2 (0 + m + 1) _ (by rfl) hown2 A2 (M.length - m) (cap1 - m) (M2.map R3.cells) (by rfl) (HR2.out _ hby) ⟨by rw [List.length_map, hl2], r3_ok _⟩ hn2 ⟨by unfold maxLen; omega, by omega⟩ hzy ?_
                intro v3 wz hown3 hbsz hzsz hkz
                have hbz : Below w1.heap.size w1 wz := hby.trans hbsz
                have hzz : w1.heap.size ≤ wz.heap.size := hbz.size
                refine ⟨.inr (HS.out _ hbz), ?_⟩
                simp only [Act.put, List.setIfInBounds_toArray, List.set_cons_zero, List.set_cons_succ]
                refine T_all [18] (by kernel_rfl) (by decide) ?_
                intro j hj
                simp only [List.mem_cons, List.mem_nil_iff, or_false, List.not_mem_nil] at hj
                subst hj
                refine T_op rfl (by rfl) (wp_calm (v := v3) (by go_simp; first | done | rfl) ⟨.inl rfl, ?_⟩)
                simp only [Act.put, List.setIfInBounds_toArray, List.set_cons_zero, List.set_cons_succ]
                refine T_done (by kernel_rfl) ?_
                go_wp2_with fail
                go_roundw
                case rel => exact ⟨k + 1, _, rfl, by go_num, by omega, by rw [H1.out, HT.out]; exact owns_mono (owned_ins hown3 hl1 hl2) hwz1, hbw.trans (hbz.mono hwz1)⟩
                case measure => simp [intOf]; omega
            · have e2 : ¬ (m : Int) < (M.length : Int) := by omega
              have e5 : decide ((m : Int) < (M.length : Int)) = false := decide_eq_false e2
              go_wp2_with fail
              refine wp_region_below_lit (by kernel_rfl) (by kernel_rfl) ?_
              repeat (first | go_big_quiet_skip | (go_big_quiet_want; go_big_quiet_op; go_big_quiet_on) | (refine q_load_fld (by rfl) _ _ (by rfl) (fun _ h => h) _ _ (by rfl) ?_ ?_ ?_ ?_ ?_ ?_; rotate_left; (next => (repeat (first | (with_reducible refine BlkAt.new _ _ _ _ ?_; ((try simp) <;> omega)) | (with_reducible assumption) | (with_reducible refine Blk.at (t := ?_) ?_; rotate_left; with_reducible assumption) | with_reducible refine BlkAt.alloc ?_ _ | with_reducible refine BlkAt.drew ?_ | (with_reducible refine BlkAt.setSame ?_ _ _) | (with_reducible refine BlkAt.setCell ?_ ?_ _; rotate_left; ((try simp) <;> omega)) | (with_reducible refine BlkAt.ext (w := ?_) ?_ ?_; rotate_left 2; (with_reducible assumption)) | fail))); rotate_left; (next => first | (simp only [go_sem]; rfl) | rfl); (next => kernel_rfl); (try simp only [Act.put, List.setIfInBounds_toArray, List.set_cons_zero, List.set_cons_succ])) | (refine q_rem (by rfl) _ _ _ _ (by rfl) _ _ (by rfl) (by rfl) (by kernel_rfl) (by kernel_rfl) ?_ ?_; (next => omega); (try simp only [Act.put, List.setIfInBounds_toArray, List.set_cons_zero, List.set_cons_succ])) | (refine q_step_ex (by rfl) ?_; apply Exists.intro; refine ⟨fun W hW => ?_, ?_⟩; (next => (have hWc := fun (b o : Nat) (h : b < _) => (Ext.out hW).cell (p := ⟨b, o, none⟩) h); (try have hLK := HLK.out W (Ext.out hW)); go_simp; first | rfl | fail | fail); (try simp only [Act.put, List.setIfInBounds_toArray, List.set_cons_zero, List.set_cons_succ])) | fail)
              refine wpQuiet_nil ?_
              intro w8 hb8
              go_wp2_with fail
              have hb08 := below_ext hbj hb8
              obtain ⟨A1, hn1, hr1, hs1'⟩ := cut_head A0 M.length cap1 m (by omega) hnil
              obtain ⟨A2, hn2, hr2, hs2'⟩ := cut_tail A0 M.length cap1 m (by omega) hfit hnil
              have hs1 := Lib.hid hs1'
              have hs2 := Lib.hid hs2'
              have hl1 : (M.take m).length = m := by simp; omega
              have hl2 : (M.drop m).length = M.length - m := by simp
              have HT : Hid (insR x M = M.take m ++ x :: M.drop m) := H4
              have hbd : Below wo.heap.size wo w8.drew := hb08.drew
              have hzd : w8.drew.heap.size = w8.heap.size := rfl
              refine wp_region_T (S := SO rb b o k L.length cap x) 18 (by kernel_rfl) ?_
              generalize w8.drew = w1 at hbd hzd ⊢
              have hzo := hbd.size
              have hbw : Below w.heap.size w w1 := hb.trans (hbd.mono hz0)
              have hwz1 : w.heap.size ≤ w1.heap.size := hbw.size
              have HR1 : Hid (∀ W, Below w1.heap.size w1 W → Rd W 3 A1 ((M.take m).map R3.cells)) := Lib.hid (fun W hW => hr1 W (M.take m) (M.drop m) (by rw [List.take_append_drop]; exact (hrd.below hbd).below hW))
              have HR2 : Hid (∀ W, Below w1.heap.size w1 W → Rd W 3 A2 ((M.drop m).map R3.cells)) := Lib.hid (fun W hW => hr2 W (M.take m) (M.drop m) hl1 (by rw [List.take_append_drop]) (by rw [List.take_append_drop]; exact (hrd.below hbd).below hW))
              have HS : Hid (∀ W, Below w1.heap.size w1 W → SO rb b o k L.length cap x W) := Lib.hid (fun W hW => ⟨((q.ext hbw).ext hW).hd.cell 0, ((hbw.trans (hW.mono hwz1)).cell (p := ⟨b, o + k * 3, none⟩) hbl).trans g0, ((hbw.trans (hW.mono hwz1)).cell (p := ⟨b, o + k * 3 + 1, none⟩) hbl).trans g1, ((hbw.trans (hW.mono hwz1)).cell (p := ⟨b, o + k * 3 + 2, none⟩) hbl).trans g2⟩)
              have hbw1 : Below w1.heap.size w1 w1 := Below.refl _ _
              have hzw1 : w1.heap.size ≤ w1.heap.size := Nat.le_refl _
              generalize M.take m = M1 at *
              generalize M.drop m = M2 at *
              clear hs1' hs2' hr1 hr2 c0j h1j hrg hrg9 c0 h0 h1 h2 qr hs hx1
              have hS := HS.out _ hbw1
              (refine T_take (i := 1) rfl (by kernel_rfl) (fun _ _ _ _ h => h) hS ?_; apply Exists.intro; refine ⟨.inl ⟨by rfl, fun W hW => ?_⟩, ?_⟩; (next => (obtain ⟨hs1, hs2⟩ := hW; go_simp; first | done | rfl)); simp only [Act.put, List.setIfInBounds_toArray, List.set_cons_zero, List.set_cons_succ])
              (refine T_take (i := 2) rfl (by kernel_rfl) (fun _ _ _ _ h => h) hS ?_; apply Exists.intro; refine ⟨.inl ⟨by rfl, fun W hW => ?_⟩, ?_⟩; (next => (obtain ⟨hs1, hs2⟩ := hW; go_simp; first | done | rfl)); simp only [Act.put, List.setIfInBounds_toArray, List.set_cons_zero, List.set_cons_succ])
              (refine T_take (i := 5) rfl (by kernel_rfl) (fun _ _ _ _ h => h) hS ?_; apply Exists.intro; refine ⟨.inl ⟨by rfl, fun W hW => ?_⟩, ?_⟩; (next => (obtain ⟨hs1, hs2⟩ := hW; go_simp; first | done | rfl)); simp only [Act.put, List.setIfInBounds_toArray, List.set_cons_zero, List.set_cons_succ])
              (refine T_take (i := 6) rfl (by kernel_rfl) (fun _ _ _ _ h => h) hS ?_; apply Exists.intro; refine ⟨.inl ⟨by rfl, fun W hW => ?_⟩, ?_⟩; (next => (obtain ⟨hs1, hs2⟩ := hW; go_simp; first | done | rfl)); simp only [Act.put, List.setIfInBounds_toArray, List.set_cons_zero, List.set_cons_succ])
              (refine T_take (i := 7) rfl (by kernel_rfl) (fun _ _ _ _ h => h) hS ?_; apply Exists.intro; refine ⟨.inl ⟨by rfl, fun W hW => ?_⟩, ?_⟩; (next => (obtain ⟨hs1, hs2⟩ := hW; go_simp; first | done | rfl)); simp only [Act.put, List.setIfInBounds_toArray, List.set_cons_zero, List.set_cons_succ])
              (refine T_take (i := 8) rfl (by kernel_rfl) (fun _ _ _ _ h => h) hS ?_; apply Exists.intro; refine ⟨.inl ⟨by rfl, fun W hW => ?_⟩, ?_⟩; (next => (obtain ⟨hs1, hs2⟩ := hW; go_simp; first | done | rfl)); simp only [Act.put, List.setIfInBounds_toArray, List.set_cons_zero, List.set_cons_succ])
              (refine T_take (i := 9) rfl (by kernel_rfl) (fun _ _ _ _ h => h) hS ?_; apply Exists.intro; refine ⟨.inl ⟨by rfl, fun W hW => ?_⟩, ?_⟩; (next => (obtain ⟨hs1, hs2⟩ := hW; go_simp; first | done | rfl)); simp only [Act.put, List.setIfInBounds_toArray, List.set_cons_zero, List.set_cons_succ])
              (refine T_take (i := 10) rfl (by kernel_rfl) (fun _ _ _ _ h => h) hS ?_; apply Exists.intro; refine ⟨.inl ⟨by rfl, fun W hW => ?_⟩, ?_⟩; (next => (obtain ⟨hs1, hs2⟩ := hW; go_simp; first | done | rfl)); simp only [Act.put, List.setIfInBounds_toArray, List.set_cons_zero, List.set_cons_succ])
              (refine T_take (i := 11) rfl (by kernel_rfl) (fun _ _ _ _ h => h) hS ?_; apply Exists.intro; refine ⟨.inl ⟨by rfl, fun W hW => ?_⟩, ?_⟩; (next => (obtain ⟨hs1, hs2⟩ := hW; go_simp; first | done | rfl)); simp only [Act.put, List.setIfInBounds_toArray, List.set_cons_zero, List.set_cons_succ])
              (refine T_take (i := 14) rfl (by kernel_rfl) (fun _ _ _ _ h => h) hS ?_; apply Exists.intro; refine ⟨.inl ⟨by rfl, fun W hW => ?_⟩, ?_⟩; (next => (obtain ⟨hs1, hs2⟩ := hW; go_simp; first | done | rfl)); simp only [Act.put, List.setIfInBounds_toArray, List.set_cons_zero, List.set_cons_succ])
              (refine T_take (i := 15) rfl (by kernel_rfl) (fun _ _ _ _ h => h) hS ?_; apply Exists.intro; refine ⟨.inl ⟨by rfl, fun W hW => ?_⟩, ?_⟩; (next => (obtain ⟨hs1, hs2⟩ := hW; go_simp; first | done | rfl)); simp only [Act.put, List.setIfInBounds_toArray, List.set_cons_zero, List.set_cons_succ])
              (refine T_take (i := 3) rfl (by kernel_rfl) (fun _ _ _ _ h => h) hS ?_; refine ⟨_, y_slice _ _ _ _ _ (by rfl) (by rfl) (fun W _ => hs1.out W), ?_⟩; simp only [Act.put, List.setIfInBounds_toArray, List.set_cons_zero, List.set_cons_succ])
              (refine T_take (i := 16) rfl (by kernel_rfl) (fun _ _ _ _ h => h) hS ?_; refine ⟨_, y_slice _ _ _ _ _ (by rfl) (by rfl) (fun W _ => hs2.out W), ?_⟩; simp only [Act.put, List.setIfInBounds_toArray, List.set_cons_zero, List.set_cons_succ])
              refine T_all [0, 12] (by kernel_rfl) (by decide) ?_
              intro j hj
              simp only [List.mem_cons, List.mem_nil_iff, or_false, List.not_mem_nil] at hj
              rcases hj with rfl | rfl
              · refine T_op rfl (by rfl) ?_
                refine wp_build0 _ 38 (by rfl) 3 Try.underlying27 (by kernel_rfl) w1.heap.size hzw1 ?_
                intro wa hown0 hbswa hzswa
                have hbwa : Below w1.heap.size w1 wa := hbw1.trans (hbswa.mono hzw1)
                have hzwa : w1.heap.size ≤ wa.heap.size := hbwa.size
                refine ⟨.inr (HS.out _ hbwa), ?_⟩
                simp only [Act.put, List.setIfInBounds_toArray, List.set_cons_zero, List.set_cons_succ]
                refine T_all [4, 12] (by kernel_rfl) (by decide) ?_
                intro j hj
                simp only [List.mem_cons, List.mem_nil_iff, or_false, List.not_mem_nil] at hj
                rcases hj with rfl | rfl
                · refine T_op rfl (by rfl) ?_
                  refine wp_append_rd _ _ _ (by rfl) w1.heap.size 38 (.agg #[.int .i64 0, .int .i64 0, .int .i64 0]) 3 24 Try.underlying27 (by kernel_rfl) ⟨rfl, by decide⟩ _ 0 [] (by rfl) hown0 A1 m cap1 (M1.map R3.cells) (by rfl) (HR1.out _ hbwa) ⟨by rw [List.length_map, hl1], r3_ok _⟩ hn1 ⟨by unfold maxLen; omega, by omega⟩ hzwa ?_
                  intro v1 wb hown1 hbswb hzswb hkwb
                  have hbwb : Below w1.heap.size w1 wb := hbwa.trans hbswb
                  have hzwb : w1.heap.size ≤ wb.heap.size := hbwb.size
                  refine ⟨.inr (HS.out _ hbwb), ?_⟩
                  simp only [Act.put, List.setIfInBounds_toArray, List.set_cons_zero, List.set_cons_succ]
                  refine T_all [12] (by kernel_rfl) (by decide) ?_
                  intro j hj
                  simp only [List.mem_cons, List.mem_nil_iff, or_false, List.not_mem_nil] at hj
                  subst hj
                  refine T_op rfl (by rfl) ?_
                  refine wp_build1 _ 38 _ (by rfl) (.agg #[.int .i64 0, .int .i64 0, .int .i64 0]) 3 Try.underlying27 (by kernel_rfl) ⟨by decide, by decide⟩ (.agg #[.int .i64 x.sym, .int .i64 x.id, .int .i64 x.slot]) (by rfl) #[.int .i64 x.sym, .int .i64 x.id, .int .i64 x.slot] (by kernel_rfl) ?_
                  intro wc hX hbswc hzswc
                  have hbwc : Below w1.heap.size w1 wc := hbwb.trans (hbswc.mono hzwb)
                  have hzwc : w1.heap.size ≤ wc.heap.size := hbwc.size
                  refine ⟨.inr (HS.out _ hbwc), ?_⟩
                  simp only [Act.put, List.setIfInBounds_toArray, List.set_cons_zero, List.set_cons_succ]
                  have hown1c := owns_ext hown1 hbswc
                  refine T_all [13] (by kernel_rfl) (by decide) ?_
                  intro j hj
                  simp only [List.mem_cons, List.mem_nil_iff, or_false, List.not_mem_nil] at hj
                  subst hj
                  refine T_op rfl (by rfl) ?_
                  refine wp_append_rd _ _ _ (by rfl) w1.heap.size 38 (.agg #[.int .i64 0, .int .i64 0, .int .i64 0]) 3 24 Try.underlying27 (by kernel_rfl) ⟨rfl, by decide⟩ v1 (0 + m) _ (by rfl) hown1c (some ⟨wb.heap.size, 0, none⟩) 1 1 [x.cells] (by rfl) (rd_own hX (by simp [R3.cells]) (n := 1) (by simp [R3.cells])) ⟨rfl, by simp [R3.cells, Value.oneCell']⟩ (fun e => by cases e) ⟨by unfold maxLen; omega, by omega⟩ hzwc ?_
                  intro v2 wy hown2 hbsy hzsy hky
                  have hby : Below w1.heap.size w1 wy := hbwc.trans hbsy
                  have hzy : w1.heap.size ≤ wy.heap.size := hby.size
                  refine ⟨.inr (HS.out _ hby), ?_⟩
                  simp only [Act.put, List.setIfInBounds_toArray, List.set_cons_zero, List.set_cons_succ]
                  refine T_all [17] (by kernel_rfl) (by decide) ?_
                  intro j hj
                  simp only [List.mem_cons, List.mem_nil_iff, or_false, List.not_mem_nil] at hj
                  subst hj
                  refine T_op rfl (by rfl) ?_
                  refine wp_append_rd _ _ _ (by rfl) w1.heap.size 38 (.agg #[.int .i64 0, .int .i64 0, .int .i64 0]) 3 24 Try.underlying27 (by kernel_rfl) ⟨rfl, by decide⟩ v2 (0 + m + 1) _ (by rfl) hown2 A2 (M.length - m) (cap1 - m) (M2.map R3.cells) (by rfl) (HR2.out _ hby) ⟨by rw [List.length_map, hl2], r3_ok _⟩ hn2 ⟨by unfold maxLen; omega, by omega⟩ hzy ?_
                  intro v3 wz hown3 hbsz hzsz hkz
                  have hbz : Below w1.heap.size w1 wz := hby.trans hbsz
                  have hzz : w1.heap.size ≤ wz.heap.size := hbz.size
                  refine ⟨.inr (HS.out _ hbz), ?_⟩
                  simp only [Act.put, List.setIfInBounds_toArray, List.set_cons_zero, List.set_cons_succ]
                  refine T_all [18] (by kernel_rfl) (by decide) ?_
                  intro j hj
                  simp only [List.mem_cons, List.mem_nil_iff, or_false, List.not_mem_nil] at hj
                  subst hj
                  refine T_op rfl (by rfl) (wp_calm (v := v3) (by go_simp; first | done | rfl) ⟨.inl rfl, ?_⟩)
                  simp only [Act.put, List.setIfInBounds_toArray, List.set_cons_zero, List.set_cons_succ]
                  refine T_done (by kernel_rfl) ?_
                  go_wp2_with fail
                  go_roundw
                  case rel => exact ⟨k + 1, _, rfl, by go_num, by omega, by rw [H1.out, HT.out]; exact owns_mono (owned_ins hown3 hl1 hl2) hwz1, hbw.trans (hbz.mono hwz1)⟩
                  case measure => simp [intOf]; omega
                · refine T_op rfl (by rfl) ?_
                  refine wp_build1 _ 38 _ (by rfl) (.agg #[.int .i64 0, .int .i64 0, .int .i64 0]) 3 Try.underlying27 (by kernel_rfl) ⟨by decide, by decide⟩ (.agg #[.int .i64 x.sym, .int .i64 x.id, .int .i64 x.slot]) (by rfl) #[.int .i64 x.sym, .int .i64 x.id, .int .i64 x.slot] (by kernel_rfl) ?_
                  intro wb hX hbswb hzswb
                  have hbwb : Below w1.heap.size w1 wb := hbwa.trans (hbswb.mono hzwa)
                  have hzwb : w1.heap.size ≤ wb.heap.size := hbwb.size
                  refine ⟨.inr (HS.out _ hbwb), ?_⟩
                  simp only [Act.put, List.setIfInBounds_toArray, List.set_cons_zero, List.set_cons_succ]
                  have hown0b := owns_ext hown0 hbswb
                  refine T_all [4] (by kernel_rfl) (by decide) ?_
                  intro j hj
                  simp only [List.mem_cons, List.mem_nil_iff, or_false, List.not_mem_nil] at hj
                  subst hj
                  refine T_op rfl (by rfl) ?_
                  refine wp_append_rd _ _ _ (by rfl) w1.heap.size 38 (.agg #[.int .i64 0, .int .i64 0, .int .i64 0]) 3 24 Try.underlying27 (by kernel_rfl) ⟨rfl, by decide⟩ _ 0 [] (by rfl) hown0b A1 m cap1 (M1.map R3.cells) (by rfl) (HR1.out _ hbwb) ⟨by rw [List.length_map, hl1], r3_ok _⟩ hn1 ⟨by unfold maxLen; omega, by omega⟩ hzwb ?_
                  intro v1 wc hown1 hbswc hzswc hkwc
                  have hbwc : Below w1.heap.size w1 wc := hbwb.trans hbswc
                  have hzwc : w1.heap.size ≤ wc.heap.size := hbwc.size
                  refine ⟨.inr (HS.out _ hbwc), ?_⟩
                  simp only [Act.put, List.setIfInBounds_toArray, List.set_cons_zero, List.set_cons_succ]
                  have hXc : Blk wc wa.heap.size 38 _ := (hkwc _ (by have := hX.lt; omega) (fun e => by simp [Value.ownBlock] at e; omega)).trans hX
                  refine T_all [13] (by kernel_rfl) (by decide) ?_
                  intro j hj
                  simp only [List.mem_cons, List.mem_nil_iff, or_false, List.not_mem_nil] at hj
                  subst hj
                  refine T_op rfl (by rfl) ?_
                  refine wp_append_rd _ _ _ (by rfl) w1.heap.size 38 (.agg #[.int .i64 0, .int .i64 0, .int .i64 0]) 3 24 Try.underlying27 (by kernel_rfl) ⟨rfl, by decide⟩ v1 (0 + m) _ (by rfl) hown1 (some ⟨wa.heap.size, 0, none⟩) 1 1 [x.cells] (by rfl) (rd_own hXc (by simp [R3.cells]) (n := 1) (by simp [R3.cells])) ⟨rfl, by simp [R3.cells, Value.oneCell']⟩ (fun e => by cases e) ⟨by unfold maxLen; omega, by omega⟩ hzwc ?_
                  intro v2 wy hown2 hbsy hzsy hky
                  have hby : Below w1.heap.size w1 wy := hbwc.trans hbsy
                  have hzy : w1.heap.size ≤ wy.heap.size := hby.size
                  refine ⟨.inr (HS.out _ hby), ?_⟩
                  simp only [Act.put, List.setIfInBounds_toArray, List.set_cons_zero, List.set_cons_succ]
                  refine T_all [17] (by kernel_rfl) (by decide) ?_
                  intro j hj
                  simp only [List.mem_cons, List.mem_nil_iff, or_false, List.not_mem_nil] at hj
                  subst hj
                  refine T_op rfl (by rfl) ?_
                  refine wp_append_rd _ _ _ (by rfl) w1.heap.size 38 (.agg #[.int .i64 0, .int .i64 0, .int .i64 0]) 3 24 Try.underlying27 (by kernel_rfl) ⟨rfl, by decide⟩ v2 (0 + m + 1) _ (by rfl) hown2 A2 (M.length - m) (cap1 - m) (M2.map R3.cells) (by rfl) (HR2.out _ hby) ⟨by rw [List.length_map, hl2], r3_ok _⟩ hn2 ⟨by unfold maxLen; omega, by omega⟩ hzy ?_
                  intro v3 wz hown3 hbsz hzsz hkz
                  have hbz : Below w1.heap.size w1 wz := hby.trans hbsz
                  have hzz : w1.heap.size ≤ wz.heap.size := hbz.size
                  refine ⟨.inr (HS.out _ hbz), ?_⟩
                  simp only [Act.put, List.setIfInBounds_toArray, List.set_cons_zero, List.set_cons_succ]
                  refine T_all [18] (by kernel_rfl) (by decide) ?_
                  intro j hj
                  simp only [List.mem_cons, List.mem_nil_iff, or_false, List.not_mem_nil] at hj
                  subst hj
                  refine T_op rfl (by rfl) (wp_calm (v := v3) (by go_simp; first | done | rfl) ⟨.inl rfl, ?_⟩)
                  simp only [Act.put, List.setIfInBounds_toArray, List.set_cons_zero, List.set_cons_succ]
                  refine T_done (by kernel_rfl) ?_
                  go_wp2_with fail
                  go_roundw
                  case rel => exact ⟨k + 1, _, rfl, by go_num, by omega, by rw [H1.out, HT.out]; exact owns_mono (owned_ins hown3 hl1 hl2) hwz1, hbw.trans (hbz.mono hwz1)⟩
                  case measure => simp [intOf]; omega
              · refine T_op rfl (by rfl) ?_
                refine wp_build1 _ 38 _ (by rfl) (.agg #[.int .i64 0, .int .i64 0, .int .i64 0]) 3 Try.underlying27 (by kernel_rfl) ⟨by decide, by decide⟩ (.agg #[.int .i64 x.sym, .int .i64 x.id, .int .i64 x.slot]) (by rfl) #[.int .i64 x.sym, .int .i64 x.id, .int .i64 x.slot] (by kernel_rfl) ?_
                intro wa hX hbswa hzswa
                have hbwa : Below w1.heap.size w1 wa := hbw1.trans (hbswa.mono hzw1)
                have hzwa : w1.heap.size ≤ wa.heap.size := hbwa.size
                refine ⟨.inr (HS.out _ hbwa), ?_⟩
                simp only [Act.put, List.setIfInBounds_toArray, List.set_cons_zero, List.set_cons_succ]
                refine T_all [0] (by kernel_rfl) (by decide) ?_
                intro j hj
                simp only [List.mem_cons, List.mem_nil_iff, or_false, List.not_mem_nil] at hj
                subst hj
                refine T_op rfl (by rfl) ?_
                refine wp_build0 _ 38 (by rfl) 3 Try.underlying27 (by kernel_rfl) w1.heap.size hzwa ?_
                intro wb hown0 hbswb hzswb
                have hbwb : Below w1.heap.size w1 wb := hbwa.trans (hbswb.mono hzwa)
                have hzwb : w1.heap.size ≤ wb.heap.size := hbwb.size
                refine ⟨.inr (HS.out _ hbwb), ?_⟩
                simp only [Act.put, List.setIfInBounds_toArray, List.set_cons_zero, List.set_cons_succ]
                have hXb := hX.ext hbswb
                refine T_all [4] (by kernel_rfl) (by decide) ?_
                intro j hj
                simp only [List.mem_cons, List.mem_nil_iff, or_false, List.not_mem_nil] at hj
                subst hj
                refine T_op rfl (by rfl) ?_
                refine wp_append_rd _ _ _ (by rfl) w1.heap.size 38 (.agg #[.int .i64 0, .int .i64 0, .int .i64 0]) 3 24 Try.underlying27 (by kernel_rfl) ⟨rfl, by decide⟩ _ 0 [] (by rfl) hown0 A1 m cap1 (M1.map R3.cells) (by rfl) (HR1.out _ hbwb) ⟨by rw [List.length_map, hl1], r3_ok _⟩ hn1 ⟨by unfold maxLen; omega, by omega⟩ hzwb ?_
                intro v1 wc hown1 hbswc hzswc hkwc
                have hbwc : Below w1.heap.size w1 wc := hbwb.trans hbswc
                have hzwc : w1.heap.size ≤ wc.heap.size := hbwc.size
                refine ⟨.inr (HS.out _ hbwc), ?_⟩
                simp only [Act.put, List.setIfInBounds_toArray, List.set_cons_zero, List.set_cons_succ]
                have hXc : Blk wc w1.heap.size 38 _ := (hkwc _ (by have := hXb.lt; omega) (fun e => by simp [Value.ownBlock] at e; omega)).trans hXb
                refine T_all [13] (by kernel_rfl) (by decide) ?_
                intro j hj
                simp only [List.mem_cons, List.mem_nil_iff, or_false, List.not_mem_nil] at hj
                subst hj
                refine T_op rfl (by rfl) ?_
                refine wp_append_rd _ _ _ (by rfl) w1.heap.size 38 (.agg #[.int .i64 0, .int .i64 0, .int .i64 0]) 3 24 Try.underlying27 (by kernel_rfl) ⟨rfl, by decide⟩ v1 (0 + m) _ (by rfl) hown1 (some ⟨w1.heap.size, 0, none⟩) 1 1 [x.cells] (by rfl) (rd_own hXc (by simp [R3.cells]) (n := 1) (by simp [R3.cells])) ⟨rfl, by simp [R3.cells, Value.oneCell']⟩ (fun e => by cases e) ⟨by unfold maxLen; omega, by omega⟩ hzwc ?_
                intro v2 wy hown2 hbsy hzsy hky
                have hby : Below w1.heap.size w1 wy := hbwc.trans hbsy
                have hzy : w1.heap.size ≤ wy.heap.size := hby.size
                refine ⟨.inr (HS.out _ hby), ?_⟩
                simp only [Act.put, List.setIfInBounds_toArray, List.set_cons_zero, List.set_cons_succ]
                refine T_all [17] (by kernel_rfl) (by decide) ?_
                intro j hj
                simp only [List.mem_cons, List.mem_nil_iff, or_false, List.not_mem_nil] at hj
                subst hj
                refine T_op rfl (by rfl) ?_
                refine wp_append_rd _ _ _ (by rfl) w1.heap.size 38 (.agg #[.int .i64 0, .int .i64 0, .int .i64 0]) 3 24 Try.underlying27 (by kernel_rfl) ⟨rfl, by decide⟩ v2 (0 + m + 1) _ (by rfl) hown2 A2 (M.length - m) (cap1 - m) (M2.map R3.cells) (by rfl) (HR2.out _ hby) ⟨by rw [List.length_map, hl2], r3_ok _⟩ hn2 ⟨by unfold maxLen; omega, by omega⟩ hzy ?_
                intro v3 wz hown3 hbsz hzsz hkz
                have hbz : Below w1.heap.size w1 wz := hby.trans hbsz
                have hzz : w1.heap.size ≤ wz.heap.size := hbz.size
                refine ⟨.inr (HS.out _ hbz), ?_⟩
                simp only [Act.put, List.setIfInBounds_toArray, List.set_cons_zero, List.set_cons_succ]
                refine T_all [18] (by kernel_rfl) (by decide) ?_
                intro j hj
                simp only [List.mem_cons, List.mem_nil_iff, or_false, List.not_mem_nil] at hj
                subst hj
                refine T_op rfl (by rfl) (wp_calm (v := v3) (by go_simp; first | done | rfl) ⟨.inl rfl, ?_⟩)
                simp only [Act.put, List.setIfInBounds_toArray, List.set_cons_zero, List.set_cons_succ]
                refine T_done (by kernel_rfl) ?_
                go_wp2_with fail
                go_roundw
                case rel => exact ⟨k + 1, _, rfl, by go_num, by omega, by rw [H1.out, HT.out]; exact owns_mono (owned_ins hown3 hl1 hl2) hwz1, hbw.trans (hbz.mono hwz1)⟩
                case measure => simp [intOf]; omega
      · have H1 := Lib.hid (of_take_same hlt hs)
        have hne : (L[k].sym == s) = false := by simpa using hs
        go_wp2_with fail
        go_roundw
        case rel => exact ⟨k + 1, _, rfl, by go_num, by omega, by rw [H1.out]; exact hown, hb⟩
        case measure => simp [intOf]; omega
    · have ht : L.take k = L := List.take_of_length_le (by omega)
      rw [ht] at hown
      go_wp2_with fail
      go_ret
      exact ⟨⟨_, rfl, hown⟩, hb⟩
end
end Idx
end Go.Proofs.Ytojkkmmiflbepaa
