/- This text proves laws on the map of what each price has, of both sides, in the words of a list of orders. It has no conditions but those that it states. This text lays the library's contracts of maps.Keys, slices.Sorted and slices.Sort at this program's numbers. It has no conditions but those that it states. This text proves that the keys of the map, sorted, are all prices of the orders, rising. It has no conditions but those that it states. -/
import Derived.Test.YtacpjpkhmdcagaaCuA
import Derived.Maps.OwnSet
import Derived.Maps.OwnOps
import Derived.Maps.RangeWalk
import Derived.DeepKeys4
import Derived.Shelf.SlIterI.Nil
import Derived.Shelf.SortM.Plain
import Derived.Shelf.SortM.SortNone
import Derived.Sort.OwnSortedInts
namespace Go.Proofs.Ytacpjpkhmdcagaa
set_option linter.unusedVariables false
open Go.RowKit Go.Maps
namespace Cu
set_option maxHeartbeats 4000000
set_option maxRecDepth 10000
open Bk (qsum qsum_app)
abbrev Dt := DataW Unit
def num (n : Int) : Dt := .lit (.int .i64 n)
def Wf (n : Int) : Prop := (Lit.int .i64 n).wf = true
def pairElem : Value → Option (Dt × List MemPlace)
  | .agg ⟨[.int .i64 a, .int .i64 b]⟩ => some (.agg [num a, num b], [])
  | _ => none
theorem pair_mk (a b : Int) : pairElem (.agg #[.int .i64 a, .int .i64 b]) = some (.agg [num a, num b], []) := rfl
theorem pair_inv {v : Value} {z : Dt × List MemPlace} (h : pairElem v = some z) : ∃ a b, v = .agg #[.int .i64 a, .int .i64 b] ∧ z = (.agg [num a, num b], []) := by
  unfold pairElem at h
  split at h
  · cases h
    exact ⟨_, _, rfl, rfl⟩
  · cases h
theorem zeroP (w : World) : (zeroValue 62).run Try.prog w = .ok (.agg #[.int .i64 0, .int .i64 0]) w := by kernel_rfl
theorem lawJ : Keyed Try.prog 2 := int_keyed Try.underlying2
theorem keyJ {p : Int} (h : Wf p) : keyOf Try.prog 2 (.int .i64 p) = some (.int .i64 p) := keyOf_int_mk Try.underlying2 h
def zp : Dt := .agg [num 0, num 0]
def hasP (os : List Ord) (p : Int) : Bool := os.any fun o => decide (o.price = p)
/-- The map, read as what the orders have. -/
def MapAt (D : Dt) (os : List Ord) : Prop := ∀ p, Wf p → has D (.int .i64 p) = hasP os p ∧ D.atKey (.int .i64 p) zp = .agg [num (buyAt os p), num (selAt os p)]
theorem buyAt_snoc (os : List Ord) (o : Ord) (p : Int) : buyAt (os ++ [o]) p = buyAt os p + if o.side = 0 ∧ o.price = p then o.qty else 0 := by
  unfold buyAt
  rw [List.filter_append, qsum_app]
  by_cases h : o.side = 0 ∧ o.price = p
  · rw [if_pos h]; simp [h, qsum]
  · rw [if_neg h]; simp [h, qsum]
theorem selAt_snoc (os : List Ord) (o : Ord) (p : Int) : selAt (os ++ [o]) p = selAt os p + if o.side = 1 ∧ o.price = p then o.qty else 0 := by
  unfold selAt
  rw [List.filter_append, qsum_app]
  by_cases h : o.side = 1 ∧ o.price = p
  · rw [if_pos h]; simp [h, qsum]
  · rw [if_neg h]; simp [h, qsum]
theorem MapAt.nil : MapAt (.map []) [] := fun p _ => ⟨rfl, rfl⟩
theorem MapAt.put {D : Dt} {os : List Ord} (hD : MapAt D os) (hm : IsMap D) {o : Ord} (hp : Wf o.price) : MapAt (D.put (.int .i64 o.price) (.agg [num (buyAt (os ++ [o]) o.price), num (selAt (os ++ [o]) o.price)])) (os ++ [o]) := by
  intro p hw
  have hk := lawJ.key (keyJ hp)
  unfold hasP
  rw [List.any_append]
  by_cases e : p = o.price
  · subst e
    exact ⟨by rw [has_put_same hm hk]; simp, atKey_put_same hm hk _ _⟩
  · have hne : (Lit.int .i64 p) ≠ .int .i64 o.price := fun h => e (by cases h; rfl)
    obtain ⟨h1, h2⟩ := hD p hw
    refine ⟨?_, ?_⟩
    · rw [has_put_other hne, h1]
      unfold hasP
      have : ¬ o.price = p := fun h => e h.symm
      simp [this]
    · have h3 : ∀ s : Int, ¬ (o.side = s ∧ o.price = p) := fun s h => e h.2.symm
      rw [atKey_put_other hne, h2, buyAt_snoc, selAt_snoc, if_neg (h3 0), if_neg (h3 1), Int.add_zero, Int.add_zero]
def Mp (w : World) (mb n : Nat) (os : List Ord) : Prop := ∃ D : Dt, w.ownsMap Try.prog 2 pairElem mb n D ∧ MapAt D os
theorem owns_keepM {w w' : World} {k : TypeId} {R : Value → Option (Dt × List MemPlace)} {b n : Nat} {D : Dt} (h : w.ownsMap Try.prog k R b n D) (hk : w'.heap[b]? = w.heap[b]?) : w'.ownsMap Try.prog k R b n D := by
  obtain ⟨es, clock, hb', F, hs, hD⟩ := h
  exact ⟨es, clock, hk.trans hb', F, hs, hD⟩
theorem Mp.keep {w w' : World} {mb n : Nat} {os : List Ord} (h : Mp w mb n os) (hk : w'.heap[mb]? = w.heap[mb]?) : Mp w' mb n os := h.imp fun D hd => ⟨owns_keepM hd.1 hk, hd.2⟩
theorem Mp.lt {w : World} {mb n : Nat} {os : List Ord} (h : Mp w mb n os) : mb < w.heap.size := by
  obtain ⟨D, h, _⟩ := h
  exact h.lt
theorem Mp.ext {w w' : World} {mb n : Nat} {os : List Ord} (h : Mp w mb n os) (hb : Below w.heap.size w w') : Mp w' mb n os := h.keep (hb.block _ h.lt)
theorem Mp.made (w : World) : Mp (w.alloc (.map #[] 0)) w.heap.size 0 [] := ⟨_, World.ownsMap_made w _ _ _, MapAt.nil⟩
/-- A look-up, as an equation. -/
theorem Mp.look {w : World} {mb n : Nat} {os : List Ord} (h : Mp w mb n os) {p : Int} (hp : Wf p) : (Instr.lookup 58 (.map (some mb)) (.int .i64 p) false).run Try.prog w = .ok (.agg #[.int .i64 (buyAt os p), .int .i64 (selAt os p)]) w := by
  obtain ⟨D, h, hD⟩ := h
  obtain ⟨v, ps, hr, hv⟩ := h.lookup lawJ Try.underlying58 (zeroP w) (zd := zp) (zp := []) (pair_mk 0 0) (keyJ hp)
  obtain ⟨a, b, rfl, hz⟩ := pair_inv hv
  have h1 := congrArg Prod.fst hz
  simp only at h1
  rw [(hD p hp).2] at h1
  unfold num at h1
  cases h1
  exact hr
end Cu
end Go.Proofs.Ytacpjpkhmdcagaa
namespace Go.Proofs.Ytacpjpkhmdcagaa
set_option linter.unusedVariables false
open Go.Shelf
namespace Cu
def keysL_ren : Go.Shelf.Ren := ⟨fun | 7 => 26 | 10 => 52 | n => n, fun | 23 => 58 | 26 => 2 | 3 => 62 | 28 => 68 | 0 => 0 | 27 => 67 | 33 => 116 | 4 => 4 | n => n, fun | n => n⟩
theorem keysL : Go.Proofs.SlLaysZI.n7 Try.prog keysL_ren := {
  mixed := by kernel_rfl
  f7 := ⟨Try.f26.name, by decide, Try.func26.trans (congrArg some (by kernel_rfl))⟩
  f10 := ⟨Try.f52.name, by decide, Try.func52.trans (congrArg some (by kernel_rfl))⟩
  t0 := Try.underlying0
  a0 := Try.isAgg0
  z0 := Try.sizeOf0
  v0 := Try.zeroValue0
  t4 := Try.underlying4
  a4 := Try.isAgg4
  z4 := Try.sizeOf4
  v4 := Try.zeroValue4
  t23 := Try.underlying58
  a23 := Try.isAgg58
  z23 := Try.sizeOf58
  v23 := Try.zeroValue58
  t26 := Try.underlying2
  a26 := Try.isAgg2
  z26 := Try.sizeOf2
  v26 := Try.zeroValue2
  t27 := Try.underlying67
  a27 := Try.isAgg67
  z27 := Try.sizeOf67
  v27 := Try.zeroValue67
  t28 := Try.underlying68
  a28 := Try.isAgg68
  z28 := Try.sizeOf68
  v28 := Try.zeroValue68
  t33 := Try.underlying116
  a33 := Try.isAgg116
  z33 := Try.sizeOf116
  v33 := Try.zeroValue116 }
def sortedL_ren : Go.Shelf.Ren := ⟨fun | 6 => 25 | 8 => 50 | 9 => 51 | 11 => 68 | 13 => 70 | 12 => 69 | 23 => 86 | 24 => 87 | 14 => 77 | 15 => 78 | 16 => 79 | 17 => 80 | 18 => 81 | 19 => 82 | 20 => 83 | 21 => 84 | 22 => 85 | 25 => 89 | 26 => 90 | 27 => 91 | 28 => 92 | 29 => 93 | 30 => 94 | 31 => 96 | n => n, fun | 26 => 2 | 28 => 68 | 24 => 35 | 0 => 0 | 3 => 3 | 37 => 117 | 48 => 172 | 50 => 128 | 4 => 4 | 40 => 165 | 39 => 164 | 45 => 92 | 5 => 5 | 9 => 9 | 51 => 174 | 55 => 178 | 57 => 181 | 58 => 182 | 33 => 116 | n => n, fun | n => n⟩
theorem sortedL : Go.Proofs.SlLaysZI.n6 Try.prog sortedL_ren := {
  mixed := by kernel_rfl
  f6 := ⟨Try.f25.name, by decide, Try.func25.trans (congrArg some (by kernel_rfl))⟩
  f8 := ⟨Try.f50.name, by decide, Try.func50.trans (congrArg some (by kernel_rfl))⟩
  f11 := ⟨Try.f68.name, by decide, Try.func68.trans (congrArg some (by kernel_rfl))⟩
  t0 := Try.underlying0
  a0 := Try.isAgg0
  z0 := Try.sizeOf0
  v0 := Try.zeroValue0
  t24 := Try.underlying35
  a24 := Try.isAgg35
  z24 := Try.sizeOf35
  v24 := Try.zeroValue35
  t26 := Try.underlying2
  a26 := Try.isAgg2
  z26 := Try.sizeOf2
  v26 := Try.zeroValue2
  t28 := Try.underlying68
  a28 := Try.isAgg68
  z28 := Try.sizeOf68
  v28 := Try.zeroValue68
  i26 := by kernel_rfl }
def sortL_ren : Go.Shelf.Ren := ⟨fun | 5 => 51 | 8 => 70 | 7 => 69 | 19 => 86 | 20 => 87 | 10 => 77 | 11 => 78 | 12 => 79 | 13 => 80 | 14 => 81 | 15 => 82 | 16 => 83 | 17 => 84 | 18 => 85 | 30 => 89 | 31 => 90 | 32 => 91 | 33 => 92 | 34 => 93 | 35 => 94 | 40 => 96 | n => n, fun | 23 => 35 | 25 => 2 | 3 => 3 | 32 => 117 | 22 => 35 | 0 => 0 | 44 => 172 | 46 => 128 | 4 => 4 | 36 => 165 | 35 => 164 | 41 => 92 | 5 => 5 | 9 => 9 | 53 => 174 | 57 => 178 | 63 => 181 | 64 => 182 | n => n, fun | n => n⟩
theorem sortL : Go.Proofs.SlLaysM.n5 Try.prog sortL_ren := {
  mixed := by kernel_rfl
  f5 := ⟨Try.f51.name, by decide, Try.func51.trans (congrArg some (by kernel_rfl))⟩
  f7 := ⟨Try.f69.name, by decide, Try.func69.trans (congrArg some (by kernel_rfl))⟩
  f8 := Try.func70.trans (congrArg some (by kernel_rfl))
  f10 := ⟨Try.f77.name, by decide, Try.func77.trans (congrArg some (by kernel_rfl))⟩
  f11 := ⟨Try.f78.name, by decide, Try.func78.trans (congrArg some (by kernel_rfl))⟩
  f12 := ⟨Try.f79.name, by decide, Try.func79.trans (congrArg some (by kernel_rfl))⟩
  f13 := ⟨Try.f80.name, by decide, Try.func80.trans (congrArg some (by kernel_rfl))⟩
  f14 := ⟨Try.f81.name, by decide, Try.func81.trans (congrArg some (by kernel_rfl))⟩
  f15 := ⟨Try.f82.name, by decide, Try.func82.trans (congrArg some (by kernel_rfl))⟩
  f16 := ⟨Try.f83.name, by decide, Try.func83.trans (congrArg some (by kernel_rfl))⟩
  f17 := ⟨Try.f84.name, by decide, Try.func84.trans (congrArg some (by kernel_rfl))⟩
  f18 := ⟨Try.f85.name, by decide, Try.func85.trans (congrArg some (by kernel_rfl))⟩
  f19 := Try.func86.trans (congrArg some (by kernel_rfl))
  f20 := Try.func87.trans (congrArg some (by kernel_rfl))
  f30 := ⟨Try.f89.name, by decide, Try.func89.trans (congrArg some (by kernel_rfl))⟩
  f31 := Try.func90.trans (congrArg some (by kernel_rfl))
  f32 := Try.func91.trans (congrArg some (by kernel_rfl))
  f33 := ⟨Try.f92.name, by decide, Try.func92.trans (congrArg some (by kernel_rfl))⟩
  f34 := ⟨Try.f93.name, by decide, Try.func93.trans (congrArg some (by kernel_rfl))⟩
  f35 := ⟨Try.f94.name, by decide, Try.func94.trans (congrArg some (by kernel_rfl))⟩
  f40 := ⟨Try.f96.name, by decide, Try.func96.trans (congrArg some (by kernel_rfl))⟩
  t0 := Try.underlying0
  a0 := Try.isAgg0
  z0 := Try.sizeOf0
  v0 := Try.zeroValue0
  t3 := Try.underlying3
  a3 := Try.isAgg3
  z3 := Try.sizeOf3
  v3 := Try.zeroValue3
  t4 := Try.underlying4
  a4 := Try.isAgg4
  z4 := Try.sizeOf4
  v4 := Try.zeroValue4
  t5 := Try.underlying5
  a5 := Try.isAgg5
  z5 := Try.sizeOf5
  v5 := Try.zeroValue5
  t9 := Try.underlying9
  a9 := Try.isAgg9
  z9 := Try.sizeOf9
  v9 := Try.zeroValue9
  t22 := Try.underlying35
  a22 := Try.isAgg35
  z22 := Try.sizeOf35
  v22 := Try.zeroValue35
  t23 := Try.underlying35
  a23 := Try.isAgg35
  z23 := Try.sizeOf35
  v23 := Try.zeroValue35
  t25 := Try.underlying2
  a25 := Try.isAgg2
  z25 := Try.sizeOf2
  v25 := Try.zeroValue2
  t32 := Try.underlying117
  a32 := Try.isAgg117
  z32 := Try.sizeOf117
  v32 := Try.zeroValue117
  t35 := Try.underlying164
  a35 := Try.isAgg164
  z35 := Try.sizeOf164
  v35 := Try.zeroValue164
  t36 := Try.underlying165
  a36 := Try.isAgg165
  z36 := Try.sizeOf165
  v36 := Try.zeroValue165
  t41 := Try.underlying92
  a41 := Try.isAgg92
  z41 := Try.sizeOf92
  v41 := Try.zeroValue92
  t44 := Try.underlying172
  a44 := Try.isAgg172
  z44 := Try.sizeOf172
  v44 := Try.zeroValue172
  t46 := Try.underlying128
  a46 := Try.isAgg128
  z46 := Try.sizeOf128
  v46 := Try.zeroValue128
  t53 := Try.underlying174
  a53 := Try.isAgg174
  z53 := Try.sizeOf174
  v53 := Try.zeroValue174
  t57 := Try.underlying178
  a57 := Try.isAgg178
  z57 := Try.sizeOf178
  v57 := Try.zeroValue178
  t63 := Try.underlying181
  a63 := Try.isAgg181
  z63 := Try.sizeOf181
  v63 := Try.zeroValue181
  t64 := Try.underlying182
  a64 := Try.isAgg182
  z64 := Try.sizeOf182
  v64 := Try.zeroValue182 }
end Cu
end Go.Proofs.Ytacpjpkhmdcagaa
namespace Go.Proofs.Ytacpjpkhmdcagaa
set_option linter.unusedVariables false
open Go.RowKit Go.Maps Go.Sort Go.Shelf
namespace Cu
set_option maxHeartbeats 4000000
set_option maxRecDepth 100000
theorem keys_mem {w : World} {mb n : Nat} {D : Dt} (hown : w.ownsMap Try.prog 2 pairElem mb n D) : (intKeys D).Nodup ∧ (intKeys D).length = Maps.size D ∧ ∀ x, x ∈ intKeys D ↔ has D (.int .i64 x) = true := by
  obtain ⟨es, hD, hpw, _⟩ := hown.entries lawJ
  obtain ⟨es', hD', hko⟩ := hown.keysOf
  obtain rfl : es = es' := by rw [hD] at hD'; simpa using hD'
  subst hD
  have hk : ∀ p ∈ es, ∃ x, p.1 = .int .i64 x := fun p hp => by
    obtain ⟨v, hv⟩ := hko p hp
    obtain ⟨x, _, hx, _⟩ := Maps.keyOf_i64 Try.underlying2 hv
    exact ⟨x, hx⟩
  refine ⟨?_, by simp [intKeys, Maps.size], fun x => ?_⟩
  · show (es.map fun p => Go.intOf p.1).Nodup
    refine List.pairwise_map.2 (hpw.imp_of_mem fun {p q} hp' hq' hne e => hne ?_)
    obtain ⟨a, ha⟩ := hk p hp'
    obtain ⟨b, hb⟩ := hk q hq'
    rw [ha, hb] at e ⊢
    exact congrArg _ e
  · rw [has_eq, List.any_eq_true]
    show x ∈ es.map (fun p => Go.intOf p.1) ↔ _
    rw [List.mem_map]
    constructor
    · rintro ⟨p, hp', rfl⟩
      obtain ⟨a, ha⟩ := hk p hp'
      exact ⟨p, hp', by rw [ha]; simp [Lit.sameKey, Go.intOf]⟩
    · rintro ⟨p, hp', hs⟩
      obtain ⟨a, ha⟩ := hk p hp'
      rw [ha] at hs
      exact ⟨p, hp', by rw [ha]; simpa [Lit.sameKey, Go.intOf] using hs⟩
theorem all_sorted {w : World} {mb n : Nat} {D : Dt} {os : List Ord} (hown : w.ownsMap Try.prog 2 pairElem mb n D) (hD : MapAt D os) (hw : ∀ o ∈ os, Wf o.price) {ss : List Int} (hp : ss.Perm (intKeys D)) :
    All os (ss.mergeSort fun x y => decide (x ≤ y)) ∧ (ss.mergeSort fun x y => decide (x ≤ y)).length = ss.length ∧ ss.length ≤ n := by
  obtain ⟨h1, h2, h3⟩ := keys_mem hown
  have hperm := List.mergeSort_perm ss fun x y => decide (x ≤ y)
  have hnd : (ss.mergeSort fun x y => decide (x ≤ y)).Nodup := (hperm.trans hp).nodup_iff.2 h1
  have hsrt := List.pairwise_mergeSort (le := fun x y : Int => decide (x ≤ y)) (fun a b c h h' => by simp at *; omega) (fun a b => by simp; omega) ss
  refine ⟨⟨?_, fun p => ?_⟩, hperm.length_eq, by rw [hp.length_eq, h2]; exact hown.size_le⟩
  · refine (hsrt.and hnd).imp (fun {a b} h => ?_)
    have h4 : a ≤ b := of_decide_eq_true h.1
    have h5 : a ≠ b := h.2
    omega
  · rw [(hperm.trans hp).mem_iff]
    constructor
    · intro h
      have hwf := intKeys_wf hown Try.underlying2 p h
      have h4 := (h3 p).1 h
      rw [(hD p hwf).1] at h4
      obtain ⟨o, ho, e⟩ := List.any_eq_true.1 h4
      exact ⟨o, ho, of_decide_eq_true e⟩
    · rintro ⟨o, ho, rfl⟩
      refine (h3 _).2 ?_
      rw [(hD _ (hw o ho)).1]
      exact List.any_eq_true.2 ⟨o, ho, decide_eq_true rfl⟩
theorem sorts (m : Nat) : AnyZI.SortsIn Try.prog sortedL_ren Fence.wide m :=
  ⟨fun blk off cap ss W hH hblk hsz => callsIn_wide.2 (AnyM.slices_Sort_int sortL blk off cap ss W hH hblk hsz),
   fun p cap W => callsIn_wide.2 (AnyM.slices_Sort_int_none sortL p cap W)⟩
theorem keys_any (mb : Option Nat) (W : World) : Calls Try.prog 26 #[.map mb] W fun e w' => e = .returned (.func (.func 52) #[] #[.pointer (some ⟨W.heap.size, 0, none⟩)]) ∧ w' = W.alloc (.cells #[.map mb] 58) :=
  callsIn_wide.1 (AnyZI.keys_in keysL Fence.wide 5 trivial rfl mb W)
theorem sorted_any {w W : World} {mb n g : Nat} {os : List Ord} (h : Mp W mb n os) (hn : n ≤ 1000) (hw : ∀ o ∈ os, Wf o.price) (hg : Blk W g 58 #[.map (some mb)]) :
    Calls Try.prog 25 #[.func (.func 52) #[] #[.pointer (some ⟨g, 0, none⟩)]] W fun e w' => ∃ v l, e = .returned v ∧ All os l ∧ l.length ≤ n ∧ w'.ownsRow W.heap.size 2 1 v l.length (l.map fun i => .int .i64 i) ∧ Below W.heap.size W w' := by
  obtain ⟨D, hown, hD⟩ := h
  have hsz := hown.size_le
  have hseq : SeqGives Fence.wide 2 Try.prog 52 #[.pointer (some ⟨g, 0, none⟩)] encZ (fun ss => ss.Perm (intKeys D)) (Maps.size D) W :=
    AnyZI.keys_gives (ρ := keysL_ren) { keysL with } Fence.wide _ trivial rfl (by omega) g mb n D _ hg.lt (hg.cell 0) hown
  have cS := AnyZI.sorted_in sortedL Fence.wide 5 trivial trivial trivial trivial rfl (by omega) (sorts _) (enters_of Try.func51 (by kernel_rfl) rfl) 52 #[.pointer (some ⟨g, 0, none⟩)] trivial (enters_of Try.func52 (by kernel_rfl) rfl) _ _ (by unfold maxLen; omega) (by omega) _ hseq
  change CallsIn _ _ Try.prog 25 _ _ _ at cS
  refine (callsIn_wide.1 cS).mono ?_
  rintro e w' ⟨v, ss, rfl, hS, hrow, _, hb⟩
  obtain ⟨h1, h2, h3⟩ := all_sorted hown hD hw hS
  exact ⟨v, _, rfl, h1, by omega, by rw [h2]; exact hrow, hb⟩
end Cu
end Go.Proofs.Ytacpjpkhmdcagaa
