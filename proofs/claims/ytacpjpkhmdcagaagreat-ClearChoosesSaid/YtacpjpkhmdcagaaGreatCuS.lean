/- This text proves laws on the map of what each price has, of both sides, in the words of a list of orders. It has no conditions but those that it states. This text lays the library's contracts of maps.Keys, slices.Sorted and slices.Sort at this program's numbers. It has no conditions but those that it states. This text proves that the keys of the map, sorted, are all prices of the orders, rising. It has no conditions but those that it states. -/
import Derived.Test.YtacpjpkhmdcagaaGreatCuA
import Derived.Maps.OwnSet
import Derived.Maps.OwnOps
import Derived.Maps.RangeWalk
import Derived.DeepKeys4
import Derived.Shelf.SlIterI.Nil
import Derived.Shelf.SortM.Plain
import Derived.Shelf.SortM.SortNone
import Derived.Sort.OwnSortedInts
namespace Go.Proofs.YtacpjpkhmdcagaaGreat
set_option linter.unusedVariables false
open Go.RowKit Go.Maps
namespace Cu
set_option maxHeartbeats 4000000
set_option maxRecDepth 10000
open Bk (qsum qsum_app)
abbrev Dt := DataW Unit
def num (n : Int) : Dt := .lit (.int .i64 n)
def Wf (n : Int) : Prop := (Lit.int .i64 n).wf = true
def pairElem : Value → Option (Dt × List MemPlace)
  | .agg ⟨[.int .i64 a, .int .i64 b]⟩ => some (.agg [num a, num b], [])
  | _ => none
theorem pair_mk (a b : Int) : pairElem (.agg #[.int .i64 a, .int .i64 b]) = some (.agg [num a, num b], []) := rfl
theorem pair_inv {v : Value} {z : Dt × List MemPlace} (h : pairElem v = some z) : ∃ a b, v = .agg #[.int .i64 a, .int .i64 b] ∧ z = (.agg [num a, num b], []) := by
  unfold pairElem at h
  split at h
  · cases h
    exact ⟨_, _, rfl, rfl⟩
  · cases h
theorem zeroP (w : World) : (zeroValue 115).run Tryz.prog w = .ok (.agg #[.int .i64 0, .int .i64 0]) w := by kernel_rfl
theorem lawJ : Keyed Tryz.prog 2 := int_keyed Tryz.underlying2
theorem keyJ {p : Int} (h : Wf p) : keyOf Tryz.prog 2 (.int .i64 p) = some (.int .i64 p) := keyOf_int_mk Tryz.underlying2 h
def zp : Dt := .agg [num 0, num 0]
def hasP (os : List Ord) (p : Int) : Bool := os.any fun o => decide (o.price = p)
/-- The map, read as what the orders have. -/
def MapAt (D : Dt) (os : List Ord) : Prop := ∀ p, Wf p → has D (.int .i64 p) = hasP os p ∧ D.atKey (.int .i64 p) zp = .agg [num (buyAt os p), num (selAt os p)]
theorem buyAt_snoc (os : List Ord) (o : Ord) (p : Int) : buyAt (os ++ [o]) p = buyAt os p + if o.side = 0 ∧ o.price = p then o.qty else 0 := by
  unfold buyAt
  rw [List.filter_append, qsum_app]
  by_cases h : o.side = 0 ∧ o.price = p
  · rw [if_pos h]; simp [h, qsum]
  · rw [if_neg h]; simp [h, qsum]
theorem selAt_snoc (os : List Ord) (o : Ord) (p : Int) : selAt (os ++ [o]) p = selAt os p + if o.side = 1 ∧ o.price = p then o.qty else 0 := by
  unfold selAt
  rw [List.filter_append, qsum_app]
  by_cases h : o.side = 1 ∧ o.price = p
  · rw [if_pos h]; simp [h, qsum]
  · rw [if_neg h]; simp [h, qsum]
theorem MapAt.nil : MapAt (.map []) [] := fun p _ => ⟨rfl, rfl⟩
theorem MapAt.put {D : Dt} {os : List Ord} (hD : MapAt D os) (hm : IsMap D) {o : Ord} (hp : Wf o.price) : MapAt (D.put (.int .i64 o.price) (.agg [num (buyAt (os ++ [o]) o.price), num (selAt (os ++ [o]) o.price)])) (os ++ [o]) := by
  intro p hw
  have hk := lawJ.key (keyJ hp)
  unfold hasP
  rw [List.any_append]
  by_cases e : p = o.price
  · subst e
    exact ⟨by rw [has_put_same hm hk]; simp, atKey_put_same hm hk _ _⟩
  · have hne : (Lit.int .i64 p) ≠ .int .i64 o.price := fun h => e (by cases h; rfl)
    obtain ⟨h1, h2⟩ := hD p hw
    refine ⟨?_, ?_⟩
    · rw [has_put_other hne, h1]
      unfold hasP
      have : ¬ o.price = p := fun h => e h.symm
      simp [this]
    · have h3 : ∀ s : Int, ¬ (o.side = s ∧ o.price = p) := fun s h => e h.2.symm
      rw [atKey_put_other hne, h2, buyAt_snoc, selAt_snoc, if_neg (h3 0), if_neg (h3 1), Int.add_zero, Int.add_zero]
def Mp (w : World) (mb n : Nat) (os : List Ord) : Prop := ∃ D : Dt, w.ownsMap Tryz.prog 2 pairElem mb n D ∧ MapAt D os
theorem owns_keepM {w w' : World} {k : TypeId} {R : Value → Option (Dt × List MemPlace)} {b n : Nat} {D : Dt} (h : w.ownsMap Tryz.prog k R b n D) (hk : w'.heap[b]? = w.heap[b]?) : w'.ownsMap Tryz.prog k R b n D := by
  obtain ⟨es, clock, hb', F, hs, hD⟩ := h
  exact ⟨es, clock, hk.trans hb', F, hs, hD⟩
theorem Mp.keep {w w' : World} {mb n : Nat} {os : List Ord} (h : Mp w mb n os) (hk : w'.heap[mb]? = w.heap[mb]?) : Mp w' mb n os := h.imp fun D hd => ⟨owns_keepM hd.1 hk, hd.2⟩
theorem Mp.lt {w : World} {mb n : Nat} {os : List Ord} (h : Mp w mb n os) : mb < w.heap.size := by
  obtain ⟨D, h, _⟩ := h
  exact h.lt
theorem Mp.ext {w w' : World} {mb n : Nat} {os : List Ord} (h : Mp w mb n os) (hb : Below w.heap.size w w') : Mp w' mb n os := h.keep (hb.block _ h.lt)
theorem Mp.made (w : World) : Mp (w.alloc (.map #[] 0)) w.heap.size 0 [] := ⟨_, World.ownsMap_made w _ _ _, MapAt.nil⟩
/-- A look-up, as an equation. -/
theorem Mp.look {w : World} {mb n : Nat} {os : List Ord} (h : Mp w mb n os) {p : Int} (hp : Wf p) : (Instr.lookup 111 (.map (some mb)) (.int .i64 p) false).run Tryz.prog w = .ok (.agg #[.int .i64 (buyAt os p), .int .i64 (selAt os p)]) w := by
  obtain ⟨D, h, hD⟩ := h
  obtain ⟨v, ps, hr, hv⟩ := h.lookup lawJ Tryz.underlying111 (zeroP w) (zd := zp) (zp := []) (pair_mk 0 0) (keyJ hp)
  obtain ⟨a, b, rfl, hz⟩ := pair_inv hv
  have h1 := congrArg Prod.fst hz
  simp only at h1
  rw [(hD p hp).2] at h1
  unfold num at h1
  cases h1
  exact hr
end Cu
end Go.Proofs.YtacpjpkhmdcagaaGreat
namespace Go.Proofs.YtacpjpkhmdcagaaGreat
set_option linter.unusedVariables false
open Go.Shelf
namespace Cu
def keysL_ren : Go.Shelf.Ren := ⟨fun | 7 => 58 | 10 => 84 | n => n, fun | 23 => 111 | 26 => 2 | 3 => 115 | 28 => 121 | 0 => 0 | 27 => 120 | 33 => 174 | 4 => 4 | n => n, fun | n => n⟩
theorem keysL : Go.Proofs.SlLaysZI.n7 Tryz.prog keysL_ren := {
  mixed := by kernel_rfl
  f7 := ⟨Tryz.f58.name, by decide, Tryz.func58.trans (congrArg some (by kernel_rfl))⟩
  f10 := ⟨Tryz.f84.name, by decide, Tryz.func84.trans (congrArg some (by kernel_rfl))⟩
  t0 := Tryz.underlying0
  a0 := Tryz.isAgg0
  z0 := Tryz.sizeOf0
  v0 := Tryz.zeroValue0
  t4 := Tryz.underlying4
  a4 := Tryz.isAgg4
  z4 := Tryz.sizeOf4
  v4 := Tryz.zeroValue4
  t23 := Tryz.underlying111
  a23 := Tryz.isAgg111
  z23 := Tryz.sizeOf111
  v23 := Tryz.zeroValue111
  t26 := Tryz.underlying2
  a26 := Tryz.isAgg2
  z26 := Tryz.sizeOf2
  v26 := Tryz.zeroValue2
  t27 := Tryz.underlying120
  a27 := Tryz.isAgg120
  z27 := Tryz.sizeOf120
  v27 := Tryz.zeroValue120
  t28 := Tryz.underlying121
  a28 := Tryz.isAgg121
  z28 := Tryz.sizeOf121
  v28 := Tryz.zeroValue121
  t33 := Tryz.underlying174
  a33 := Tryz.isAgg174
  z33 := Tryz.sizeOf174
  v33 := Tryz.zeroValue174 }
def sortedL_ren : Go.Shelf.Ren := ⟨fun | 6 => 57 | 8 => 83 | 9 => 62 | 11 => 98 | 13 => 87 | 12 => 86 | 23 => 110 | 24 => 111 | 14 => 101 | 15 => 102 | 16 => 103 | 17 => 104 | 18 => 105 | 19 => 106 | 20 => 107 | 21 => 108 | 22 => 109 | 25 => 114 | 26 => 115 | 27 => 116 | 28 => 117 | 29 => 118 | 30 => 88 | 31 => 120 | n => n, fun | 26 => 2 | 28 => 121 | 24 => 48 | 0 => 0 | 3 => 3 | 37 => 175 | 48 => 202 | 50 => 139 | 4 => 4 | 40 => 195 | 39 => 194 | 45 => 98 | 5 => 5 | 9 => 9 | 51 => 204 | 55 => 208 | 57 => 211 | 58 => 212 | 33 => 174 | n => n, fun | n => n⟩
theorem sortedL : Go.Proofs.SlLaysZI.n6 Tryz.prog sortedL_ren := {
  mixed := by kernel_rfl
  f6 := ⟨Tryz.f57.name, by decide, Tryz.func57.trans (congrArg some (by kernel_rfl))⟩
  f8 := ⟨Tryz.f83.name, by decide, Tryz.func83.trans (congrArg some (by kernel_rfl))⟩
  f11 := ⟨Tryz.f98.name, by decide, Tryz.func98.trans (congrArg some (by kernel_rfl))⟩
  t0 := Tryz.underlying0
  a0 := Tryz.isAgg0
  z0 := Tryz.sizeOf0
  v0 := Tryz.zeroValue0
  t24 := Tryz.underlying48
  a24 := Tryz.isAgg48
  z24 := Tryz.sizeOf48
  v24 := Tryz.zeroValue48
  t26 := Tryz.underlying2
  a26 := Tryz.isAgg2
  z26 := Tryz.sizeOf2
  v26 := Tryz.zeroValue2
  t28 := Tryz.underlying121
  a28 := Tryz.isAgg121
  z28 := Tryz.sizeOf121
  v28 := Tryz.zeroValue121
  i26 := by kernel_rfl }
def sortL_ren : Go.Shelf.Ren := ⟨fun | 5 => 62 | 8 => 87 | 7 => 86 | 19 => 110 | 20 => 111 | 10 => 101 | 11 => 102 | 12 => 103 | 13 => 104 | 14 => 105 | 15 => 106 | 16 => 107 | 17 => 108 | 18 => 109 | 30 => 114 | 31 => 115 | 32 => 116 | 33 => 117 | 34 => 118 | 35 => 88 | 40 => 120 | n => n, fun | 23 => 48 | 25 => 2 | 3 => 3 | 32 => 175 | 22 => 48 | 0 => 0 | 44 => 202 | 46 => 139 | 4 => 4 | 36 => 195 | 35 => 194 | 41 => 98 | 5 => 5 | 9 => 9 | 53 => 204 | 57 => 208 | 63 => 211 | 64 => 212 | n => n, fun | n => n⟩
theorem sortL : Go.Proofs.SlLaysM.n5 Tryz.prog sortL_ren := {
  mixed := by kernel_rfl
  f5 := ⟨Tryz.f62.name, by decide, Tryz.func62.trans (congrArg some (by kernel_rfl))⟩
  f7 := ⟨Tryz.f86.name, by decide, Tryz.func86.trans (congrArg some (by kernel_rfl))⟩
  f8 := Tryz.func87.trans (congrArg some (by kernel_rfl))
  f10 := ⟨Tryz.f101.name, by decide, Tryz.func101.trans (congrArg some (by kernel_rfl))⟩
  f11 := ⟨Tryz.f102.name, by decide, Tryz.func102.trans (congrArg some (by kernel_rfl))⟩
  f12 := ⟨Tryz.f103.name, by decide, Tryz.func103.trans (congrArg some (by kernel_rfl))⟩
  f13 := ⟨Tryz.f104.name, by decide, Tryz.func104.trans (congrArg some (by kernel_rfl))⟩
  f14 := ⟨Tryz.f105.name, by decide, Tryz.func105.trans (congrArg some (by kernel_rfl))⟩
  f15 := ⟨Tryz.f106.name, by decide, Tryz.func106.trans (congrArg some (by kernel_rfl))⟩
  f16 := ⟨Tryz.f107.name, by decide, Tryz.func107.trans (congrArg some (by kernel_rfl))⟩
  f17 := ⟨Tryz.f108.name, by decide, Tryz.func108.trans (congrArg some (by kernel_rfl))⟩
  f18 := ⟨Tryz.f109.name, by decide, Tryz.func109.trans (congrArg some (by kernel_rfl))⟩
  f19 := Tryz.func110.trans (congrArg some (by kernel_rfl))
  f20 := Tryz.func111.trans (congrArg some (by kernel_rfl))
  f30 := ⟨Tryz.f114.name, by decide, Tryz.func114.trans (congrArg some (by kernel_rfl))⟩
  f31 := Tryz.func115.trans (congrArg some (by kernel_rfl))
  f32 := Tryz.func116.trans (congrArg some (by kernel_rfl))
  f33 := ⟨Tryz.f117.name, by decide, Tryz.func117.trans (congrArg some (by kernel_rfl))⟩
  f34 := ⟨Tryz.f118.name, by decide, Tryz.func118.trans (congrArg some (by kernel_rfl))⟩
  f35 := ⟨Tryz.f88.name, by decide, Tryz.func88.trans (congrArg some (by kernel_rfl))⟩
  f40 := ⟨Tryz.f120.name, by decide, Tryz.func120.trans (congrArg some (by kernel_rfl))⟩
  t0 := Tryz.underlying0
  a0 := Tryz.isAgg0
  z0 := Tryz.sizeOf0
  v0 := Tryz.zeroValue0
  t3 := Tryz.underlying3
  a3 := Tryz.isAgg3
  z3 := Tryz.sizeOf3
  v3 := Tryz.zeroValue3
  t4 := Tryz.underlying4
  a4 := Tryz.isAgg4
  z4 := Tryz.sizeOf4
  v4 := Tryz.zeroValue4
  t5 := Tryz.underlying5
  a5 := Tryz.isAgg5
  z5 := Tryz.sizeOf5
  v5 := Tryz.zeroValue5
  t9 := Tryz.underlying9
  a9 := Tryz.isAgg9
  z9 := Tryz.sizeOf9
  v9 := Tryz.zeroValue9
  t22 := Tryz.underlying48
  a22 := Tryz.isAgg48
  z22 := Tryz.sizeOf48
  v22 := Tryz.zeroValue48
  t23 := Tryz.underlying48
  a23 := Tryz.isAgg48
  z23 := Tryz.sizeOf48
  v23 := Tryz.zeroValue48
  t25 := Tryz.underlying2
  a25 := Tryz.isAgg2
  z25 := Tryz.sizeOf2
  v25 := Tryz.zeroValue2
  t32 := Tryz.underlying175
  a32 := Tryz.isAgg175
  z32 := Tryz.sizeOf175
  v32 := Tryz.zeroValue175
  t35 := Tryz.underlying194
  a35 := Tryz.isAgg194
  z35 := Tryz.sizeOf194
  v35 := Tryz.zeroValue194
  t36 := Tryz.underlying195
  a36 := Tryz.isAgg195
  z36 := Tryz.sizeOf195
  v36 := Tryz.zeroValue195
  t41 := Tryz.underlying98
  a41 := Tryz.isAgg98
  z41 := Tryz.sizeOf98
  v41 := Tryz.zeroValue98
  t44 := Tryz.underlying202
  a44 := Tryz.isAgg202
  z44 := Tryz.sizeOf202
  v44 := Tryz.zeroValue202
  t46 := Tryz.underlying139
  a46 := Tryz.isAgg139
  z46 := Tryz.sizeOf139
  v46 := Tryz.zeroValue139
  t53 := Tryz.underlying204
  a53 := Tryz.isAgg204
  z53 := Tryz.sizeOf204
  v53 := Tryz.zeroValue204
  t57 := Tryz.underlying208
  a57 := Tryz.isAgg208
  z57 := Tryz.sizeOf208
  v57 := Tryz.zeroValue208
  t63 := Tryz.underlying211
  a63 := Tryz.isAgg211
  z63 := Tryz.sizeOf211
  v63 := Tryz.zeroValue211
  t64 := Tryz.underlying212
  a64 := Tryz.isAgg212
  z64 := Tryz.sizeOf212
  v64 := Tryz.zeroValue212 }
end Cu
end Go.Proofs.YtacpjpkhmdcagaaGreat
namespace Go.Proofs.YtacpjpkhmdcagaaGreat
set_option linter.unusedVariables false
open Go.RowKit Go.Maps Go.Sort Go.Shelf
namespace Cu
set_option maxHeartbeats 4000000
set_option maxRecDepth 100000
theorem keys_mem {w : World} {mb n : Nat} {D : Dt} (hown : w.ownsMap Tryz.prog 2 pairElem mb n D) : (intKeys D).Nodup ∧ (intKeys D).length = Maps.size D ∧ ∀ x, x ∈ intKeys D ↔ has D (.int .i64 x) = true := by
  obtain ⟨es, hD, hpw, _⟩ := hown.entries lawJ
  obtain ⟨es', hD', hko⟩ := hown.keysOf
  obtain rfl : es = es' := by rw [hD] at hD'; simpa using hD'
  subst hD
  have hk : ∀ p ∈ es, ∃ x, p.1 = .int .i64 x := fun p hp => by
    obtain ⟨v, hv⟩ := hko p hp
    obtain ⟨x, _, hx, _⟩ := Maps.keyOf_i64 Tryz.underlying2 hv
    exact ⟨x, hx⟩
  refine ⟨?_, by simp [intKeys, Maps.size], fun x => ?_⟩
  · show (es.map fun p => Go.intOf p.1).Nodup
    refine List.pairwise_map.2 (hpw.imp_of_mem fun {p q} hp' hq' hne e => hne ?_)
    obtain ⟨a, ha⟩ := hk p hp'
    obtain ⟨b, hb⟩ := hk q hq'
    rw [ha, hb] at e ⊢
    exact congrArg _ e
  · rw [has_eq, List.any_eq_true]
    show x ∈ es.map (fun p => Go.intOf p.1) ↔ _
    rw [List.mem_map]
    constructor
    · rintro ⟨p, hp', rfl⟩
      obtain ⟨a, ha⟩ := hk p hp'
      exact ⟨p, hp', by rw [ha]; simp [Lit.sameKey, Go.intOf]⟩
    · rintro ⟨p, hp', hs⟩
      obtain ⟨a, ha⟩ := hk p hp'
      rw [ha] at hs
      exact ⟨p, hp', by rw [ha]; simpa [Lit.sameKey, Go.intOf] using hs⟩
theorem all_sorted {w : World} {mb n : Nat} {D : Dt} {os : List Ord} (hown : w.ownsMap Tryz.prog 2 pairElem mb n D) (hD : MapAt D os) (hw : ∀ o ∈ os, Wf o.price) {ss : List Int} (hp : ss.Perm (intKeys D)) :
    All os (ss.mergeSort fun x y => decide (x ≤ y)) ∧ (ss.mergeSort fun x y => decide (x ≤ y)).length = ss.length ∧ ss.length ≤ n := by
  obtain ⟨h1, h2, h3⟩ := keys_mem hown
  have hperm := List.mergeSort_perm ss fun x y => decide (x ≤ y)
  have hnd : (ss.mergeSort fun x y => decide (x ≤ y)).Nodup := (hperm.trans hp).nodup_iff.2 h1
  have hsrt := List.pairwise_mergeSort (le := fun x y : Int => decide (x ≤ y)) (fun a b c h h' => by simp at *; omega) (fun a b => by simp; omega) ss
  refine ⟨⟨?_, fun p => ?_⟩, hperm.length_eq, by rw [hp.length_eq, h2]; exact hown.size_le⟩
  · refine (hsrt.and hnd).imp (fun {a b} h => ?_)
    have h4 : a ≤ b := of_decide_eq_true h.1
    have h5 : a ≠ b := h.2
    omega
  · rw [(hperm.trans hp).mem_iff]
    constructor
    · intro h
      have hwf := intKeys_wf hown Tryz.underlying2 p h
      have h4 := (h3 p).1 h
      rw [(hD p hwf).1] at h4
      obtain ⟨o, ho, e⟩ := List.any_eq_true.1 h4
      exact ⟨o, ho, of_decide_eq_true e⟩
    · rintro ⟨o, ho, rfl⟩
      refine (h3 _).2 ?_
      rw [(hD _ (hw o ho)).1]
      exact List.any_eq_true.2 ⟨o, ho, decide_eq_true rfl⟩
theorem sorts (m : Nat) : AnyZI.SortsIn Tryz.prog sortedL_ren Fence.wide m :=
  ⟨fun blk off cap ss W hH hblk hsz => callsIn_wide.2 (AnyM.slices_Sort_int sortL blk off cap ss W hH hblk hsz),
   fun p cap W => callsIn_wide.2 (AnyM.slices_Sort_int_none sortL p cap W)⟩
theorem keys_any (mb : Option Nat) (W : World) : Calls Tryz.prog 58 #[.map mb] W fun e w' => e = .returned (.func (.func 84) #[] #[.pointer (some ⟨W.heap.size, 0, none⟩)]) ∧ w' = W.alloc (.cells #[.map mb] 111) :=
  callsIn_wide.1 (AnyZI.keys_in keysL Fence.wide 5 trivial rfl mb W)
theorem sorted_any {w W : World} {mb n g : Nat} {os : List Ord} (h : Mp W mb n os) (hn : n ≤ 1000) (hw : ∀ o ∈ os, Wf o.price) (hg : Blk W g 111 #[.map (some mb)]) :
    Calls Tryz.prog 57 #[.func (.func 84) #[] #[.pointer (some ⟨g, 0, none⟩)]] W fun e w' => ∃ v l, e = .returned v ∧ All os l ∧ l.length ≤ n ∧ w'.ownsRow W.heap.size 2 1 v l.length (l.map fun i => .int .i64 i) ∧ Below W.heap.size W w' := by
  obtain ⟨D, hown, hD⟩ := h
  have hsz := hown.size_le
  have hseq : SeqGives Fence.wide 2 Tryz.prog 84 #[.pointer (some ⟨g, 0, none⟩)] encZ (fun ss => ss.Perm (intKeys D)) (Maps.size D) W :=
    AnyZI.keys_gives (ρ := keysL_ren) { keysL with } Fence.wide _ trivial rfl (by omega) g mb n D _ hg.lt (hg.cell 0) hown
  have cS := AnyZI.sorted_in sortedL Fence.wide 5 trivial trivial trivial trivial rfl (by omega) (sorts _) (enters_of Tryz.func62 (by kernel_rfl) rfl) 84 #[.pointer (some ⟨g, 0, none⟩)] trivial (enters_of Tryz.func84 (by kernel_rfl) rfl) _ _ (by unfold maxLen; omega) (by omega) _ hseq
  change CallsIn _ _ Tryz.prog 57 _ _ _ at cS
  refine (callsIn_wide.1 cS).mono ?_
  rintro e w' ⟨v, ss, rfl, hS, hrow, _, hb⟩
  obtain ⟨h1, h2, h3⟩ := all_sorted hown hD hw hS
  exact ⟨v, _, rfl, h1, by omega, by rw [h2]; exact hrow, hb⟩
end Cu
end Go.Proofs.YtacpjpkhmdcagaaGreat
