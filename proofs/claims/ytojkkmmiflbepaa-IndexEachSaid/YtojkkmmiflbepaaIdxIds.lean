/- This text proves the contract of index.ids: a symbol's IDs, rising. It has no conditions but those that it states. -/
import Derived.Test.YtojkkmmiflbepaaIdxSort
import Derived.Test.YtojkkmmiflbepaaIndex
import Derived.Test.YtojkkmmiflbepaaRange
namespace Go.Proofs.Ytojkkmmiflbepaa
set_option linter.unusedVariables false
open Go.RowKit Go.Maps
namespace Idx
set_option maxHeartbeats 1000000
set_option maxRecDepth 10000
def idsR (L : List R3) (s : Int) : List Int := (L.filter fun r => decide (r.sym = s)).map R3.id
def leZ (x y : Int) : Bool := decide (x ≤ y)
def idsOf (L : List R3) (s : Int) : List Int := (idsR L s).mergeSort leZ
theorem sort_perm {a b : List Int} (h : a.Perm b) : a.mergeSort leZ = b.mergeSort leZ := by
  have tr : ∀ a b c : Int, leZ a b = true → leZ b c = true → leZ a c = true := fun a b c h1 h2 => by simp only [leZ, decide_eq_true_eq] at *; omega
  have to : ∀ a b : Int, (leZ a b || leZ b a) = true := fun a b => by simp only [leZ, Bool.or_eq_true, decide_eq_true_eq]; omega
  refine List.Perm.eq_of_pairwise (le := fun a b => leZ a b = true) (fun a b _ _ h1 h2 => ?_) (List.pairwise_mergeSort tr to a) (List.pairwise_mergeSort tr to b) (((List.mergeSort_perm a leZ).trans h).trans (List.mergeSort_perm b leZ).symm)
  simp only [leZ, decide_eq_true_eq] at h1 h2
  omega
theorem nodup_le : ∀ {s t : List Int}, s.Nodup → (∀ x ∈ s, x ∈ t) → s.length ≤ t.length
  | [], _, _, _ => Nat.zero_le _
  | a :: s, t, hn, hs => by
    have ha : a ∈ t := hs a (List.mem_cons_self ..)
    rw [List.nodup_cons] at hn
    have h := nodup_le (s := s) (t := t.erase a) hn.2 (fun x hx => (List.mem_erase_of_ne (fun e => hn.1 (by rw [← e]; exact hx))).2 (hs x (List.mem_cons_of_mem _ hx)))
    rw [List.length_erase_of_mem ha] at h
    have := List.length_pos_of_mem ha
    simp only [List.length_cons]
    omega
/-- The IDs of a symbol that the range has met. -/
def Met (D : Dt) (sym : Int) (left : Lit → Bool) (ss : List Int) : Prop := ss.Nodup ∧ (∀ z, left z = true → has D z = true) ∧ (∀ i ∈ ss, Wf i) ∧ ∀ i, Wf i → (i ∈ ss ↔ has D (kl sym i) = true ∧ left (kl sym i) = false)
theorem met_start (D : Dt) (sym : Int) : Met D sym (has D) [] := ⟨List.nodup_nil, fun _ h => h, fun i h => (by cases h), fun i _ => by cases has D (kl sym i) <;> simp⟩
theorem same_kl {s i s' i' : Int} (hs : Wf s) (hi : Wf i) (hs' : Wf s') (hi' : Wf i') : (kl s i).sameKey (kl s' i') = decide (s = s' ∧ i = i') := by
  by_cases e : s = s' ∧ i = i'
  · obtain ⟨rfl, rfl⟩ := e
    rw [WideAt.sameKey_self (lawK.key (keyK hs hi))]
    simp
  · rw [Maps.sameKey_ne (fun h => e (kl_inj hs hi hs' hi' h))]
    simp [e]
theorem met_yes {D : Dt} {sym : Int} {left : Lit → Bool} {ss : List Int} (h : Met D sym left ss) {i0 : Int} (hs : Wf sym) (hi : Wf i0) (hl : left (kl sym i0) = true) : Met D sym (fun z => left z && !z.sameKey (kl sym i0)) (ss ++ [i0]) := by
  obtain ⟨h1, h2, h3, h4⟩ := h
  have hno : i0 ∉ ss := fun hm => by have := ((h4 i0 hi).1 hm).2; rw [hl] at this; cases this
  refine ⟨?_, fun z hz => h2 z (by simp only [Bool.and_eq_true] at hz; exact hz.1), fun i hm => ?_, fun i hw => ?_⟩
  · rw [List.nodup_append]
    exact ⟨h1, by simp, fun a ha b hb e => by rw [List.mem_singleton] at hb; subst hb; subst e; exact hno ha⟩
  · rcases List.mem_append.1 hm with h | h
    · exact h3 i h
    · rw [List.mem_singleton] at h; subst h; exact hi
  · rw [List.mem_append, List.mem_singleton, h4 i hw]
    show _ ↔ _ ∧ (left (kl sym i) && !(kl sym i).sameKey (kl sym i0)) = false
    rw [same_kl hs hw hs hi]
    by_cases e : i = i0
    · subst e
      simp [h2 _ hl]
    · simp [e]
theorem met_no {D : Dt} {sym : Int} {left : Lit → Bool} {ss : List Int} (h : Met D sym left ss) {s0 i0 : Int} (hs : Wf sym) (hs0 : Wf s0) (hi : Wf i0) (hne : s0 ≠ sym) : Met D sym (fun z => left z && !z.sameKey (kl s0 i0)) ss := by
  obtain ⟨h1, h2, h3, h4⟩ := h
  refine ⟨h1, fun z hz => h2 z (by simp only [Bool.and_eq_true] at hz; exact hz.1), h3, fun i hw => ?_⟩
  rw [h4 i hw]
  show _ ↔ _ ∧ (left (kl sym i) && !(kl sym i).sameKey (kl s0 i0)) = false
  rw [same_kl hs hw hs0 hi]
  have : ¬ (sym = s0 ∧ i = i0) := fun h => hne h.1.symm
  simp [this]
theorem look_mem {L : List R3} {s i : Int} : (look L s i).isSome = true ↔ i ∈ idsR L s := by
  unfold look idsR
  rw [List.find?_isSome]
  simp only [List.mem_map, List.mem_filter, R3.is, decide_eq_true_eq]
  exact ⟨fun ⟨r, h1, h2, h3⟩ => ⟨r, ⟨h1, h2⟩, h3⟩, fun ⟨r, ⟨h1, h2⟩, h3⟩ => ⟨r, h1, h2, h3⟩⟩
theorem ids_nodup {L : List R3} (h : Uniq L) (s : Int) : (idsR L s).Nodup := by
  unfold idsR
  refine List.pairwise_map.2 ((h.filter _).imp_of_mem (fun {a b} ha hb hab e => hab ?_))
  have h1 := (List.mem_filter.1 ha).2
  have h2 := (List.mem_filter.1 hb).2
  simp only [decide_eq_true_eq] at h1 h2
  exact ⟨h1.trans h2.symm, e⟩
theorem met_mem {D : Dt} {L : List R3} {sym : Int} {left : Lit → Bool} {ss : List Int} (hD : SlotsAt D L) (hs : Wf sym) (h : Met D sym left ss) : ∀ i ∈ ss, i ∈ idsR L sym := fun i hi => by
  have hw := h.2.2.1 i hi
  rw [← look_mem, ← (hD sym i hs hw).1]
  exact ((h.2.2.2 i hw).1 hi).1
theorem met_le {D : Dt} {L : List R3} {sym : Int} {left : Lit → Bool} {ss : List Int} (hD : SlotsAt D L) (hs : Wf sym) (h : Met D sym left ss) : ss.length ≤ L.length := by
  have h1 := nodup_le h.1 (met_mem hD hs h)
  have h2 : (idsR L sym).length ≤ L.length := by unfold idsR; rw [List.length_map]; exact List.length_filter_le _ _
  omega
theorem met_end {D : Dt} {L : List R3} {sym : Int} {left : Lit → Bool} {ss : List Int} (hD : SlotsAt D L) (hu : Uniq L) (hw : ∀ r ∈ L, r.wf) (hs : Wf sym) (h : Met D sym left ss) (hl : ∀ z, left z = false) : ss.mergeSort leZ = idsOf L sym := by
  refine sort_perm ((List.perm_ext_iff_of_nodup h.1 (ids_nodup hu sym)).2 fun i => ⟨met_mem hD hs h i, fun hi => ?_⟩)
  have hwi : Wf i := by
    unfold idsR at hi
    obtain ⟨r, hr, rfl⟩ := List.mem_map.1 hi
    exact (hw r (List.mem_filter.1 hr).1).2.1
  rw [h.2.2.2 i hwi]
  exact ⟨by rw [(hD sym i hs hwi).1, look_mem]; exact hi, hl _⟩
theorem grown_to {w w' : World} (hb : Below w.heap.size w w') : w.grownBy w' none := ⟨hb.os, hb.tape, hb.output, hb.size, fun i hi _ => hb.block i hi⟩
theorem row_keep {w w' : World} {B : Nat} {e : TypeId} {size n : Nat} {v : Value} {xs : List Value} (h : w.ownsRow B e size v n xs) (hk : ∀ r, B ≤ r → r < w.heap.size → w'.heap[r]? = w.heap[r]?) : w'.ownsRow B e size v n xs := by
  refine ⟨h.1, ?_⟩
  rcases h.2 with h0 | ⟨g, cap, cur, rfl, hb, hg, h1⟩
  · exact .inl h0
  · exact .inr ⟨g, cap, cur, rfl, hb, (hk g hb (Array.getElem?_eq_some_iff.1 hg).1).trans hg, h1⟩
theorem row_mono {W : World} {B B' : Nat} {e : TypeId} {size n : Nat} {v : Value} {xs : List Value} (h : W.ownsRow B' e size v n xs) (hB : B ≤ B') : W.ownsRow B e size v n xs := by
  refine ⟨h.1, ?_⟩
  rcases h.2 with h0 | ⟨g, cap, cur, hv, hb, h1⟩
  · exact .inl h0
  · exact .inr ⟨g, cap, cur, hv, Nat.le_trans hB hb, h1⟩
theorem ids_any {w : World} {xb bs bm n : Nat} {L : List R3} (x : Xq w xb bs bm n L) {sym : Int} (hsy : Wf sym) :
    Calls Try.prog 19 #[.pointer (some ⟨xb, 0, none⟩), .int .i64 sym] w fun e w' => (∃ v, e = .returned v ∧ w'.ownsRow w.heap.size 2 1 v (idsOf L sym).length ((idsOf L sym).map (Value.int .i64))) ∧ Below w.heap.size w w' := by
  have hlen := x.len
  obtain ⟨D, hown, hD⟩ := x.os
  have c0 : w.cell? ⟨xb, 0, none⟩ = some (.map (some bs)) := x.hd.cell 0
  have hbl := hown.lt
  have HU := Lib.hid x.uniq
  have HW := Lib.hid x.wf
  clear x
  go_enter Try.func19, Try.ntmps19
  go_wp2_with (first | (at_range; refine wpList_range_own _ rfl _ 46 rfl 42 3 lawK Try.underlying46 _ bs n _ rfl hown ?_; intro w0 hrg0 hg0 hs0) | fail)
  go_frame
  have hb0 : Below w.heap.size w w0 := grown_below hg0 (Nat.le_refl _) (fun g e => by cases e)
  clear c0
  go_loopw [4] (fun v wr => ∃ (left : Lit → Bool) (cnt : Nat) (ss : List Int), wr.ranges Try.prog 42 (plainElem Try.prog 3) bs w.heap.size n D left cnt ∧ Met D sym left ss ∧ wr.ownsRow (w.heap.size + 1) 2 1 v ss.length (ss.map (Value.int .i64)) ∧ Below w.heap.size w wr)
    (fun _ wr => wr.rangeLeft bs w.heap.size)
  case atStart => exact ⟨_, _, [], hrg0, met_start D sym, World.ownsRow_nil _ _ _ _, hb0⟩
  case round =>
    obtain ⟨left, cnt, ss, hrg, hM, hrow, hB⟩ := hrel
    have hzr := hB.size
    have hrl := hrg.lt
    have hsl := met_le hD hsy hM
    go_wp2_with (first | (at_next; refine wpList_next_ranges _ rfl _ rfl 42 lawK _ (fun x : Int × Int => key x.1 x.2) (fun c : Int => Value.int .i64 c) (fun k l h => by obtain ⟨s, i, h1, _⟩ := keyK_inv h; exact ⟨(s, i), h1⟩) (fun v y h => by obtain ⟨c, h1, _⟩ := plainElem_int_inv Try.underlying3 h; exact ⟨c, h1⟩) bs w.heap.size n _ _ _ rfl hrg ?_ ?_) | fail)
    · intro _ hl0
      have HE := Lib.hid (met_end hD HU.out HW.out hsy hM hl0)
      have hlE : (idsOf L sym).length = ss.length := by rw [← HE.out, List.length_mergeSort]
      rcases hrow.2 with ⟨rfl, hn0⟩ | ⟨g, cap, cur, rfl, hbase, hbk, h1, h2, h3, h4⟩
      · have HC : Hid (∀ W, Calls Try.prog 23 #[.slice none 0 0] W fun e w' => e = .returned (.tuple #[]) ∧ w' = W) := Lib.hid (fun W => AnyM.slices_Sort_int_none sortL none 0 W)
        have he : idsOf L sym = [] := List.eq_nil_of_length_eq_zero (by omega)
        clear hrg hM hrow
        go_wp2_with (first | (go_at_call 23; refine (HC.out _).mono ?_; rintro e w2 ⟨rfl, rfl⟩) | fail)
        go_ret
        exact ⟨⟨_, rfl, by rw [he]; exact World.ownsRow_nil _ _ _ _⟩, hB⟩
      · have hgl := (Array.getElem?_eq_some_iff.1 hbk).1
        have HC : Hid (Calls Try.prog 23 #[.slice (some ⟨g, 0, none⟩) ss.length cap] wr fun e w' => e = .returned (.tuple #[]) ∧ ∃ n os, w' = Go.Sort.grow (Go.Sort.putRow (Value.int .i64) (Go.Sort.ahead wr n) g 0 (ss.mergeSort fun x y => decide (x ≤ y)).toArray) os) :=
          Lib.hid (AnyM.slices_Sort_int sortL g 0 cap ss wr (holds_of_blockI hbk (by simpa using h4)) hgl (by omega))
        have HK := Lib.hid (And.intro hbk (And.intro h1 (And.intro h2 (And.intro h3 h4))))
        clear hrg hM hrow hbk h1 h2 h3 h4
        go_wp2_with (first | (go_at_call 23; refine HC.out.mono ?_; rintro e w2 ⟨rfl, k2, os2, hw2⟩; have H2 := Lib.hid hw2; clear hw2) | fail)
        go_ret
        obtain ⟨hbk, h1, h2, h3, h4⟩ := HK.out
        have hw2 := H2.out
        have hE2 : (ss.mergeSort fun x y => decide (x ≤ y)) = idsOf L sym := HE.out
        rw [hE2] at hw2
        subst hw2
        refine ⟨⟨_, rfl, ?_⟩, hB.trans (grown_below (grownBy_sortedI _) (by omega) (fun g' e => by cases e; omega))⟩
        have h5 := ownsRow_sortedI (n := k2) (os := os2) (ts := idsOf L sym) hlE hbase hbk h1 h2 h3
        rw [hlE]
        exact row_mono h5 (Nat.le_succ _)
    · intro s0 i0 c kl0 y1 y2 w1 cnt1 hkey hlx hv hat hrg1 hlt hg1 hs1 hen
      obtain ⟨s1, i1, he, rfl, hw1, hw2⟩ := keyK_inv hkey
      unfold key at he
      simp at he
      obtain ⟨rfl, rfl⟩ := he
      simp only [key] at hen hkey ⊢
      have hrow1 := row_keep hrow (fun r hr hr2 => hg1.block r hr2 (fun e => by cases e; omega))
      have hB1 : Below w.heap.size w w1 := hB.trans ⟨hg1.os, hg1.tape, hg1.output, hg1.size, fun k hk => hg1.block k (by omega) (fun e => by cases e; omega)⟩
      have hz1 : w.heap.size + 1 ≤ w1.heap.size := by omega
      have HS1 := Lib.hid hs1
      have HRG := Lib.hid hrg1
      have HRW := Lib.hid hrow1
      have HMY := Lib.hid (fun (e : s0 = sym) => met_yes hM hsy hw2 (by rw [← e]; exact hlx))
      have HMN := Lib.hid (fun (e : s0 ≠ sym) => met_no hM hsy hw1 hw2 e)
      have HLE := Lib.hid (And.intro hrg.left_eq hlt)
      clear hkey hv hat hrg hrg1 hrow hrow1 hM hlx hg1 hs1 hlt
      by_cases e : s0 = sym
      · have e2 : (s0 == sym) = true := by simpa using e
        have HSM := Lib.hid (HMY.out e)
        have HEQ := Lib.hid e
        clear e HMY HMN
        have hb16 : Below w1.heap.size w1 ((w1.alloc (.cells #[.int .i64 s0, .int .i64 i0] 42)).alloc (.cells #[.int .i64 i0] 2)) := by (repeat (first | with_reducible exact Below.refl _ _ | (with_reducible assumption) | (with_reducible refine below_alloc ?_ _) | (with_reducible refine below_ext (w1 := ?_) ?_ ?_; rotate_left 2; (with_reducible assumption)) | (with_reducible refine Below.setCell ?_ ?_ _; rotate_left; ((try simp) <;> omega)) | (with_reducible refine Below.drew ?_) | (with_reducible refine below_drewN ?_ _) | fail))
        have hB6 : Blk ((w1.alloc (.cells #[.int .i64 s0, .int .i64 i0] 42)).alloc (.cells #[.int .i64 i0] 2)) (w1.heap.size + 1) 2 #[.int .i64 i0] := Blk.new _ _ _ _ (sz_alloc _ _)
        have HP := Lib.hid (And.intro hb16 (And.intro hB6 (owns_ext HRW.out hb16)))
        clear hb16 hB6
        go_wp2_with (first
          | ((with_reducible show wpList _ _ _ (⟨_, .call ⟨.builtin .append, _, _⟩, _, _, _, _⟩ :: _) _ _); refine wpList_append_rd (by rfl) _ _ _ (by rfl) (w.heap.size + 1) 2 (.int .i64 0) 1 8 Try.underlying55 (by kernel_rfl) ⟨rfl, by decide⟩ u4 ss.length (ss.map (Value.int .i64)) (by rfl) HP.out.2.2 (some ⟨w1.heap.size + 1, 0, none⟩) 1 1 [[.int .i64 i0]] (by rfl) ?_ ⟨rfl, ?_⟩ (by simp) ⟨by unfold maxLen; omega, by omega⟩ ?_ ?_; (next => exact rd_own HP.out.2.1 (fun r hr => by rw [List.mem_singleton.1 hr]; rfl) (n := 1) (by rfl)); (next => exact fun r hr => by rw [List.mem_singleton.1 hr]; exact ⟨rfl, by simp [Value.oneCell']⟩); (next => simp only [sz_alloc]; omega); intro v7 w7 hown7 hb7 hz7 hk7; have HO7 := Lib.hid (And.intro hown7 (And.intro hb7 (And.intro hz7 hk7))); clear hown7 hb7 hz7 hk7)
          | fail)
        obtain ⟨hown7, hb7, hz7, hk7⟩ := HO7.out
        have hb16 := HP.out.1
        have hrg7 : w7.ranges Try.prog 42 (plainElem Try.prog 3) bs w.heap.size n D (fun z => left z && !z.sameKey (kl s0 i0)) cnt1 :=
          (HRG.out.kept (grown_to hb16) (by simp) (by simp)).kept (row := u4.ownBlock) ⟨hb7.os, hb7.tape, hb7.output, hz7, fun i hi hne => hk7 i hi (fun h => hne h.symm)⟩ (fun e => by have := owns_base HRW.out _ e.symm; omega) (fun e => by have := owns_base HRW.out _ e.symm; omega)
        go_roundw
        case rel => exact ⟨_, cnt1, ss ++ [i0], hrg7, by rw [HEQ.out]; exact HSM.out, by simpa using hown7, (hB1.trans (hb16.mono (by omega))).trans (hb7.mono (by omega))⟩
        case measure => rw [hrg7.left_eq, HLE.out.1]; exact HLE.out.2
      · have e2 : (s0 == sym) = false := by simpa using e
        have HSM := Lib.hid (HMN.out e)
        clear e HMY HMN
        have hb15 : Below w1.heap.size w1 (w1.alloc (.cells #[.int .i64 s0, .int .i64 i0] 42)) := by (repeat (first | with_reducible exact Below.refl _ _ | (with_reducible assumption) | (with_reducible refine below_alloc ?_ _) | (with_reducible refine below_ext (w1 := ?_) ?_ ?_; rotate_left 2; (with_reducible assumption)) | (with_reducible refine Below.setCell ?_ ?_ _; rotate_left; ((try simp) <;> omega)) | (with_reducible refine Below.drew ?_) | (with_reducible refine below_drewN ?_ _) | fail))
        have HP := Lib.hid hb15
        clear hb15
        go_wp2_with fail
        have hrg5 := HRG.out.kept (grown_to HP.out) (by simp) (by simp)
        go_roundw
        case rel => exact ⟨_, cnt1, ss, hrg5, HSM.out, owns_ext HRW.out HP.out, hB1.trans (HP.out.mono (by omega))⟩
        case measure => rw [hrg5.left_eq, HLE.out.1]; exact HLE.out.2
end Idx
end Go.Proofs.Ytojkkmmiflbepaa
