/- This text proves what slices.Insert makes of an own row of levels, one level put in: the contract of that instance. It has no conditions but those that it states. This text proves what slices.Delete makes of an own row of levels, one level taken out: the contract of that instance. It has no conditions but those that it states. -/
import Derived.Test.YtacpjpkhmdcagaaGreatRow
import Derived.Test.YtacpjpkhmdcagaaGreatSink
import Derived.Lib.Overlaps
import Derived.Laws.Externs
namespace Go.Proofs.YtacpjpkhmdcagaaGreat
set_option linter.unusedVariables false
open Go.RowKit
structure Lvl where
  (price qty orders queue : Int)
def Lvl.cells (s : Lvl) : List Value := [.int .i64 s.price, .int .i64 s.qty, .int .i64 s.orders, .int .i64 s.queue]
def Lvl.arr (s : Lvl) : Array Value := s.cells.toArray
@[go_sem] theorem Lvl.arr_size (s : Lvl) : s.arr.size = 4 := rfl
@[go_sem] theorem Lvl.arr_0 (s : Lvl) : s.arr[0]? = some (.int .i64 s.price) := rfl
@[go_sem] theorem Lvl.arr_1 (s : Lvl) : s.arr[1]? = some (.int .i64 s.qty) := rfl
@[go_sem] theorem Lvl.arr_2 (s : Lvl) : s.arr[2]? = some (.int .i64 s.orders) := rfl
@[go_sem] theorem Lvl.arr_3 (s : Lvl) : s.arr[3]? = some (.int .i64 s.queue) := rfl
theorem Lvl.cells_arr (s : Lvl) : s.cells.toArray = s.arr := rfl

namespace Lad
set_option maxHeartbeats 2000000
set_option maxRecDepth 10000
def flatL (l : List Lvl) : List Value := (l.map Lvl.cells).flatten
theorem flatL_app (a b : List Lvl) : flatL (a ++ b) = flatL a ++ flatL b := by simp [flatL]
theorem flatL_len (l : List Lvl) : (flatL l).length = l.length * 4 := by
  unfold flatL
  rw [flat_len (k := 4) _ (fun r hr => by obtain ⟨x, _, rfl⟩ := List.mem_map.1 hr; rfl), List.length_map]
theorem flatL_one (l : List Lvl) : ∀ u ∈ flatL l, u.oneCell' = true := by
  intro u hu
  obtain ⟨r, hr, hu⟩ := List.mem_flatten.1 hu
  obtain ⟨x, _, rfl⟩ := List.mem_map.1 hr
  simp [Lvl.cells] at hu
  rcases hu with rfl | rfl | rfl | rfl <;> rfl
theorem lvl_one (x : Lvl) : ∀ u ∈ x.cells, u.oneCell' = true := by
  intro u hu
  simp [Lvl.cells] at hu
  rcases hu with rfl | rfl | rfl | rfl <;> rfl
/-- The row behind an operation is the old one's block, or a new one. -/
def Fresh (w : World) (v v' : Value) : Prop := v'.ownBlock = v.ownBlock ∨ ∀ b, v'.ownBlock = some b → w.heap.size ≤ b
def InsPost (B : Nat) (v : Value) (n : Nat) (xs : List Value) (w : World) (e : Ending) (w' : World) : Prop :=
  ∃ v', e = .returned v' ∧ w'.ownsRow B 156 4 v' n xs ∧ w.grownBy w' v.ownBlock ∧ Fresh w v v'
theorem zero_lvl : ∀ w, (zeroValue 156).run Tryz.prog w = .ok (.agg #[.int .i64 0, .int .i64 0, .int .i64 0, .int .i64 0]) w := fun _ => by kernel_rfl
/-! ### rows, laid over -/
theorem laid_two (A T Z X : List Value) (k : Nat) (hX : X.length = 4) (hA : A.length = k) (hZ : T.length + 4 ≤ Z.length) :
    let L1 := (A ++ Z).take k ++ X ++ (A ++ Z).drop (k + X.length)
    L1.take (k + 4) ++ T ++ L1.drop (k + 4 + T.length) = A ++ X ++ T ++ Z.drop (4 + T.length) := by
  intro L1
  have h1 : L1 = A ++ X ++ Z.drop 4 := by
    show (A ++ Z).take k ++ X ++ (A ++ Z).drop (k + X.length) = _
    rw [List.take_left' hA, List.drop_append, hX, hA]
    simp
    omega
  rw [h1]
  have h2 : (A ++ X).length = k + 4 := by rw [List.length_append, hA, hX]
  rw [List.take_left' h2, List.drop_append, h2]
  have h3 : (A ++ X).drop (k + 4 + T.length) = [] := List.drop_eq_nil_of_le (by omega)
  rw [h3, List.nil_append, show k + 4 + T.length - (k + 4) = T.length by omega, List.drop_drop]
theorem laid_shift (A T Z X : List Value) (k : Nat) (hX : X.length = 4) (hA : A.length = k) (hZ : 4 ≤ Z.length) :
    let L1 := (A ++ T ++ Z).take (k + 4) ++ T ++ (A ++ T ++ Z).drop (k + 4 + T.length)
    L1.take k ++ X ++ L1.drop (k + X.length) = A ++ X ++ T ++ Z.drop 4 := by
  intro L1
  have h0 : (A ++ T ++ Z).drop (k + 4 + T.length) = Z.drop 4 := by
    rw [List.drop_append]
    have h1 : (A ++ T).drop (k + 4 + T.length) = [] := List.drop_eq_nil_of_le (by simp; omega)
    rw [h1, List.nil_append]
    congr 1
    simp
    omega
  have h1 : L1 = A ++ ((T ++ Z).take 4 ++ T ++ Z.drop 4) := by
    show (A ++ T ++ Z).take (k + 4) ++ T ++ (A ++ T ++ Z).drop (k + 4 + T.length) = _
    rw [h0, List.append_assoc A T Z, List.take_append, hA, show k + 4 - k = 4 by omega, List.take_of_length_le (by omega)]
    simp
  rw [h1, List.take_left' hA, List.drop_append, hA, List.drop_eq_nil_of_le (by omega), List.nil_append, hX, show k + 4 - k = 4 by omega]
  have h2 : ((T ++ Z).take 4).length = 4 := by simp; omega
  rw [List.append_assoc ((T ++ Z).take 4), List.drop_left' h2]
  simp
theorem info_lvl : ∃ i, Tryz.prog.info? 156 = some i ∧ i.zero = some (.agg #[.int .i64 0, .int .i64 0, .int .i64 0, .int .i64 0]) ∧ i.size = 4 ∧ i.bytes = 32 := by
  obtain ⟨i, hi, hz, hs, hb⟩ := info_parts (show (Tryz.prog.info? 156).map (fun i => (i.zero, i.size, i.bytes)) = some (some (.agg #[.int .i64 0, .int .i64 0, .int .i64 0, .int .i64 0]), 4, 32) by kernel_rfl)
  exact ⟨i, hi, hz, hs, hb⟩
theorem hov (w : World) (vb b o : Nat) (lb cb : Nat) (tA tB : TypeId) (ca cbb : Array Value) (hA : Blk w vb tA ca) (hB : Blk w b tB cbb) (hne : vb ≠ b) (hk : cbb.size ≠ 0) :
    (callFunc 93 #[.slice (some ⟨vb, 0, none⟩) 1 1, .slice (some ⟨b, o, none⟩) lb cb]).run Tryz.prog w = .ok (.value (.bool false)) w := by
  have hsA : w.shape? vb = some (tA, ca.size) := by
    have : w.heap[vb]? = some (.cells ca tA (0, 0)) := hA
    simp [World.shape?, this]
  have hsB : w.shape? b = some (tB, cbb.size) := by
    have : w.heap[b]? = some (.cells cbb tB (0, 0)) := hB
    simp [World.shape?, this]
  rw [run_callFunc_extern (fn := Tryz.f93) (by kernel_rfl) (by kernel_rfl) (by kernel_rfl) (by kernel_rfl) (e := Extern.SlicesOverlaps.overlaps #[138, 138] #[4]) (by kernel_rfl),
    Lib.run_overlaps_apart w 138 4 156 Tryz.underlying138 4 (fun w => by kernel_rfl) ⟨vb, 0, none⟩ ⟨b, o, none⟩ 1 1 lb cb hne tA tB ca.size cbb.size hsA hsB hk (hA.frozen 0) (hA.frozen ca.size)]
  rfl
theorem grown_alloc (w : World) (o : Obj) (row : Option Nat) : w.grownBy (w.drew.alloc o) row := ⟨rfl, rfl, rfl, by rw [sz_alloc]; exact Nat.le_succ _, fun k hk _ => heapAtLt w.drew o k hk⟩
theorem grown_set (w : World) (g : Nat) (cs : Array Value) : w.grownBy (w.setRow g cs) (some g) := ⟨rfl, rfl, rfl, by simp, fun k _ hk => setRow_other w g k cs (fun e => hk (by rw [e]))⟩
/-- A new row that holds so much, and zeros behind it. -/
theorem owns_new {w : World} {B n G : Nat} {xs : List Value} {cur : Array Value} (hB : B ≤ w.heap.size) (hx : xs.length = n * 4) (hG : n ≤ G) (hM : G ≤ maxLen) (hc : cur.size = G * 4) (ht : cur.toList.take (n * 4) = xs) :
    (w.drew.alloc (.cells cur 156)).ownsRow B 156 4 (.slice (some ⟨w.heap.size, 0, none⟩) n G) n xs :=
  ⟨hx, .inr ⟨w.heap.size, G, cur, rfl, hB, Go.heap_alloc_new w.drew _, hG, hM, hc, ht⟩⟩
theorem cut_tail (b o len cap k : Nat) (x : Int) (hx : x = k) (hk : k ≤ len) (hc : ¬ (cap = k)) (W : World) : (Instr.sliceAt 138 (.slice (some ⟨b, o, none⟩) len cap) (some (.int .i64 x)) none none).run Tryz.prog W = .ok (.slice (some ⟨b, o + k * 4, none⟩) (len - k) (cap - k)) W := by
  subst hx
  have ht : Tryz.prog.underlying 138 = some (.slice (Tryz.prog.elem 138)) := by kernel_rfl
  have he : Tryz.prog.elem 138 = 156 := by kernel_rfl
  obtain ⟨i, hi, hz, hs, hby⟩ := info_lvl
  rw [run_sliceAt_slice (h := ht), run_slice_l (ht := ht) (kl := .i64) (l := (k : Int)) (len := len) (h0 := by omega) (h1 := by omega), he]
  simp only [sizeOf, typeInfo, Sem.run_bind]
  simp [hi, sliced, hs, hc, addr_add]
section
variable {w : World} {B bx n : Nat} {v : Value} {x : Lvl} {ls : List Lvl} {cx : Nat}
theorem lvl_at (hX : Blk w bx 156 x.arr) : ∀ j u, x.cells[j]? = some u → w.cell? ((⟨bx, 0, none⟩ : Addr).add j) = some u := fun j u hu => by
  rw [addr_add, Nat.zero_add, hX.cell]
  simpa [Lvl.arr] using hu
/-- One level appended to an own row. -/
theorem run_append_lvl (hown : w.ownsRow B 156 4 v ls.length (flatL ls)) (hn : ls.length ≤ 1000) (hX : Blk w bx 156 x.arr) (hB : B ≤ w.heap.size) :
    ∃ v' w', (∀ ty, (Builtin.append_ #[138, 138] ty #[v, .slice (some ⟨bx, 0, none⟩) 1 1]).run Tryz.prog w = .ok v' w') ∧ w'.ownsRow B 156 4 v' (ls.length + 1) (flatL (ls ++ [x])) ∧ w.grownBy w' v.ownBlock ∧ Fresh w v v' := by
  obtain ⟨i, hi, hz, hs, hb⟩ := info_lvl
  have hxl : x.cells.length = 1 * i.size := by rw [hs]; rfl
  have hfl : (flatL (ls ++ [x])).length = (ls.length + 1) * 4 := by rw [flatL_len]; simp
  have hfx : flatL (ls ++ [x]) = flatL ls ++ x.cells := by rw [flatL_app]; simp [flatL]
  have hzc : ∀ m, (Builtin.zeroCells (Value.agg #[.int .i64 0, .int .i64 0, .int .i64 0, .int .i64 0]).cells m).size = m * 4 := fun m => size_zeroCells _ _
  have hM : ls.length + 1 ≤ maxLen := by unfold maxLen; omega
  rcases hown.2 with ⟨rfl, h0⟩ | ⟨g, cap, cur, rfl, hbg, hg, hnc, hcm, hcs, ht⟩
  · have hls : ls = [] := List.eq_nil_of_length_eq_zero h0
    subst hls
    refine ⟨_, _, fun ty => run_append_nil w 138 ty 156 i _ Tryz.underlying138 hi hz ⟨bx, 0, none⟩ 1 1 x.cells hxl (lvl_at hX) (by decide) (by decide) (by rw [hb]; decide), ?_, grown_alloc _ _ _, .inr (fun b hb' => by simp [Value.ownBlock] at hb'; omega)⟩
    refine owns_new hB hfl (grownCap_ge w 1 0 156) (grownCap_le_maxLen w 1 0 156 hM) ?_ ?_
    · have := grownCap_ge w 1 0 156
      simp only [Array.size_append, List.size_toArray, hzc, hxl, hs]
      omega
    · rw [Array.toList_append, show ([] : List Lvl) ++ [x] = [x] from rfl, show flatL [x] = x.cells by simp [flatL]]
      exact List.take_left' (by rfl)
  · by_cases hroom : ls.length + 1 ≤ cap
    · have hfit : ls.length * i.size + x.cells.length ≤ cur.size := by rw [hs, hcs]; simp [Lvl.cells]; omega
      refine ⟨_, _, fun ty => run_append_room w 138 ty 156 i Tryz.underlying138 hi g ls.length cap cur hg ⟨bx, 0, none⟩ 1 1 x.cells hxl (lvl_at hX) (lvl_one x) hroom hfit, ?_, grown_set _ _ _, .inl rfl⟩
      refine ⟨hfl, .inr ⟨g, cap, _, rfl, hbg, setRow_heap w g cur _ 156 _ hg, hroom, hcm, ?_, ?_⟩⟩
      · rw [hs] at hfit ⊢
        simp only [List.size_toArray, List.length_append, List.length_take, List.length_drop, Array.length_toList]
        omega
      · rw [hs, ht, ← hfl, hfx]
        exact List.take_left' rfl
    · have holds : ∀ j u, (flatL ls)[j]? = some u → w.cell? ((⟨g, 0, none⟩ : Addr).add j) = some u := fun j u hu => by
        rw [addr_add, Nat.zero_add, (show Blk w g 156 cur from hg).cell, ← Array.getElem?_toList]
        rw [← ht, List.getElem?_take] at hu
        split at hu
        · exact hu
        · cases hu
      refine ⟨_, _, fun ty => run_append_grow w 138 ty 156 i _ Tryz.underlying138 hi hz ⟨g, 0, none⟩ ls.length cap (flatL ls) (by rw [hs, flatL_len]) holds ⟨bx, 0, none⟩ 1 1 x.cells hxl (lvl_at hX) (by omega) (by omega) (growslice_fits (by omega) (by rw [hb]; omega)), ?_, grown_alloc _ _ _, .inr (fun b hb' => by simp [Value.ownBlock] at hb'; omega)⟩
      refine owns_new hB hfl (grownCap_ge w _ cap 156) (grownCap_le_maxLen w _ cap 156 hM) ?_ ?_
      · have := grownCap_ge w (ls.length + 1) cap 156
        simp only [Array.size_append, List.size_toArray, hzc, hxl, hs, flatL_len]
        omega
      · rw [hfx, ← hfl, hfx]
        simp only [Array.toList_append, List.append_assoc]
        rw [← List.append_assoc]
        exact List.take_left' rfl
theorem insert_end (hown : w.ownsRow B 156 4 v ls.length (flatL ls)) (hn : ls.length ≤ 1000) (hX : Blk w bx 156 x.arr) (hB : B ≤ w.heap.size) :
    Calls Tryz.prog 74 #[v, .int .i64 ls.length, .slice (some ⟨bx, 0, none⟩) 1 1] w (InsPost B v (ls.length + 1) (flatL (ls ++ [x])) w) := by
  obtain ⟨v', w', hr, h1, h2, h3⟩ := run_append_lvl hown hn hX hB
  have hP : Hid (InsPost B v (ls.length + 1) (flatL (ls ++ [x])) w (.returned v') w') := Lib.hid ⟨v', rfl, h1, h2, h3⟩
  replace hr := Lib.hid hr
  rcases hown.2 with ⟨rfl, h0⟩ | ⟨g, cap, cur, rfl, hbg, hg, hnc, hcm, hcs, ht⟩
  · have hls : ls = [] := List.eq_nil_of_length_eq_zero h0
    subst hls
    clear hown h1 h2 h3
    go_enter Tryz.func74, Tryz.ntmps74
    go_wp2_with (first | (at_builtin; refine Lib.wpList_append_run _ rfl _ _ _ _ rfl _ _ rfl rfl _ _ (hr.out _) ?_) | fail)
    go_ret
    exact hP.out
  · clear hown h1 h2 h3 hcs ht hg
    unfold maxLen at hcm
    by_cases hc : cap = ls.length
    · subst hc
      go_enter Tryz.func74, Tryz.ntmps74
      go_wp2_with (first | (at_builtin; refine Lib.wpList_append_run _ rfl _ _ _ _ rfl _ _ rfl rfl _ _ (hr.out _) ?_) | fail)
      go_ret
      exact hP.out
    · go_enter Tryz.func74, Tryz.ntmps74
      go_wp2_with (first | (at_builtin; refine Lib.wpList_append_run _ rfl _ _ _ _ rfl _ _ rfl rfl _ _ (hr.out _) ?_) | fail)
      go_ret
      exact hP.out
/-- Ahead of some, where there is no room. -/
theorem insert_grow {g i k : Nat} {A T : List Value} (hown : w.ownsRow B 156 4 (.slice (some ⟨g, 0, none⟩) n n) n (A ++ T)) (hk : Hid (n = i + k)) (hin : i < n) (hA : A.length = i * 4) (hT : T.length = k * 4) (h1 : ∀ u ∈ A ++ T, u.oneCell' = true) (hn : n ≤ 1000) (hX : Blk w bx 156 x.arr) (hB : B ≤ w.heap.size) :
    Calls Tryz.prog 74 #[.slice (some ⟨g, 0, none⟩) n n, .int .i64 i, .slice (some ⟨bx, 0, none⟩) 1 1] w (InsPost B (.slice (some ⟨g, 0, none⟩) n n) (n + 1) (A ++ x.cells ++ T) w) := by
  obtain ⟨ti, hi, hz, hs, hb⟩ := info_lvl
  have hkn := hk.out
  obtain ⟨_, h0 | ⟨g', cap', cur, he, hbg, hg, hnc, hcm, hcs, ht⟩⟩ := hown
  · cases h0.1
  injection he with he1 _ he3
  injection he1 with he1
  injection he1 with he1
  subst he1 he3
  have hgb : Blk w g 156 cur := hg
  have hcell : ∀ j u, (A ++ T)[j]? = some u → w.cell? ⟨g, j, none⟩ = some u := fun j u hu => by
    rw [hgb.cell, ← Array.getElem?_toList]
    rw [← ht, List.getElem?_take] at hu
    split at hu
    · exact hu
    · cases hu
  have hG := grownCap_ge w (n + 1) n 156
  have hGM := grownCap_le_maxLen w (n + 1) n 156 (by unfold maxLen; omega)
  have hr1 : ∀ ty, (Builtin.append_ #[138, 3] ty #[.slice (some ⟨g, 0, none⟩) i n, .int .i64 ((n : Int) + 1 - (i : Int))]).run Tryz.prog w = .ok (.slice (some ⟨w.heap.size, 0, none⟩) (n + 1) (grownCap w (n + 1) n 156)) (w.drew.alloc (.cells (A.toArray ++ Builtin.zeroCells (Value.agg #[.int .i64 0, .int .i64 0, .int .i64 0, .int .i64 0]).cells (k + 1) ++ Builtin.zeroCells (Value.agg #[.int .i64 0, .int .i64 0, .int .i64 0, .int .i64 0]).cells (grownCap w (n + 1) n 156 - (n + 1))) 156)) := fun ty => by
    have := run_append_zeros (P := Tryz.prog) w 138 3 ty 156 .i64 .i64 ti _ Tryz.underlying138 Tryz.underlying3 hi hz ⟨g, 0, none⟩ i n A (by rw [hs, hA]) (fun j v hv => by
      rw [addr_add, Nat.zero_add]
      exact hcell j v (by rw [List.getElem?_append_left (List.getElem?_eq_some_iff.1 hv).1]; exact hv)) (k + 1) (by omega) (by omega) (by omega) (by omega) (by rw [hb]; omega) (growslice_fits (by omega) (by rw [hb]; omega))
    rw [show i + (k + 1) = n + 1 by omega, show ((k + 1 : Nat) : Int) = (n : Int) + 1 - (i : Int) by omega] at this
    exact this
  generalize grownCap w (n + 1) n 156 = G at *
  obtain ⟨Z, hZ⟩ : ∃ Z, Z = (Builtin.zeroCells (Value.agg #[.int .i64 0, .int .i64 0, .int .i64 0, .int .i64 0]).cells (k + 1)).toList ++ (Builtin.zeroCells (Value.agg #[.int .i64 0, .int .i64 0, .int .i64 0, .int .i64 0]).cells (G - (n + 1))).toList := ⟨_, rfl⟩
  have hZl : Z.length = (G - i) * 4 := by
    rw [hZ, List.length_append, Array.length_toList, Array.length_toList, size_zeroCells, size_zeroCells]
    show (k + 1) * 4 + (G - (n + 1)) * 4 = _
    omega
  have hW1 : Blk (w.drew.alloc (.cells (A ++ Z).toArray 156)) w.heap.size 156 (A ++ Z).toArray := Go.heap_alloc_new w.drew _
  rw [show A.toArray ++ Builtin.zeroCells (Value.agg #[.int .i64 0, .int .i64 0, .int .i64 0, .int .i64 0]).cells (k + 1) ++ Builtin.zeroCells (Value.agg #[.int .i64 0, .int .i64 0, .int .i64 0, .int .i64 0]).cells (G - (n + 1)) = (A ++ Z).toArray by rw [hZ]; apply Array.ext'; simp] at hr1
  clear hZ
  have hB1 : w.grownBy (w.drew.alloc (.cells (A ++ Z).toArray 156)) (some g) := grown_alloc _ _ _
  generalize hWd : w.drew.alloc (.cells (A ++ Z).toArray 156) = W1 at hr1 hW1 hB1
  have hx1 : Blk W1 bx 156 x.arr := by rw [← hWd]; exact (Blk.drew hX).alloc _
  have hg1 : Blk W1 g 156 cur := by rw [← hWd]; exact (Blk.drew hgb).alloc _
  have hzs := hgb.lt
  clear hWd
  have hmin : Nat.min 1 (n + 1 - i) = 1 := by simp only [Nat.min_def]; rw [if_pos (by omega)]
  have hr2 := Lib.hid (fun (dc sc : Nat) ty => run_copy_rows (P := Tryz.prog) W1 138 138 ty 156 4 w.heap.size (i * 4) (n + 1 - i) dc ⟨bx, 0, none⟩ 1 sc (A ++ Z).toArray 156 x.cells Tryz.underlying138 (by rw [hi]; simp [hs]) hW1 (by rw [hmin]; rfl) (lvl_at hx1) (by simp [hZl, hA, Lvl.cells]; omega) (lvl_one x))
  rw [hmin] at hr2
  have hb01 : Below w.heap.size w W1 := ⟨hB1.os, hB1.tape, hB1.output, hB1.size, fun q hq => by
    by_cases e : q = g
    · subst e; exact (show W1.heap[q]? = _ from hg1).trans hgb.symm
    · exact hB1.block q hq (by simpa using e)⟩
  obtain ⟨L1, hL1⟩ : ∃ L1, L1 = (A ++ Z).take (i * 4) ++ x.cells ++ (A ++ Z).drop (i * 4 + x.cells.length) := ⟨_, rfl⟩
  simp only at hr2
  rw [← hL1] at hr2
  have hl1 : L1.length = G * 4 := by rw [hL1]; simp [hZl, hA, Lvl.cells]; omega
  have hW2 : Blk (W1.setRow w.heap.size L1.toArray) w.heap.size 156 L1.toArray := setRow_heap W1 _ _ _ _ _ hW1
  have hU2 : Upd w.heap.size W1 (W1.setRow w.heap.size L1.toArray) := ⟨rfl, rfl, rfl, by simp, fun q hq => setRow_other W1 _ q _ hq⟩
  generalize W1.setRow w.heap.size L1.toArray = W2 at hr2 hW2 hU2
  have hg2 := hg1.upd (by omega) hU2
  have hb02 := below_upd hb01 (Nat.le_refl _) hU2
  have hmin2 : Nat.min (n - i) (n + 1 - (i + 1)) = k := by simp only [Nat.min_def]; rw [if_pos (by omega)]; omega
  have hr3 : ∀ W3, Below W2.heap.size W2 W3 → ∀ (dc sc : Nat) ty, (Builtin.copy_ #[138, 138] ty #[.slice (some ⟨w.heap.size, (i + 1) * 4, none⟩) (n + 1 - (i + 1)) dc, .slice (some ⟨g, i * 4, none⟩) (n - i) sc]).run Tryz.prog W3 = .ok (goInt (k : Nat)) (W3.setRow w.heap.size (L1.take ((i + 1) * 4) ++ T ++ L1.drop ((i + 1) * 4 + T.length)).toArray) := fun W3 h3 dc sc ty => by
    have := run_copy_rows (P := Tryz.prog) W3 138 138 ty 156 4 w.heap.size ((i + 1) * 4) (n + 1 - (i + 1)) dc ⟨g, i * 4, none⟩ (n - i) sc L1.toArray 156 T Tryz.underlying138 (by rw [hi]; simp [hs]) (hW2.ext h3) (by rw [hmin2, hT]) (fun j v hv => by
      rw [addr_add, (hg2.ext h3).cell, ← hgb.cell]
      exact hcell _ v (by rw [List.getElem?_append_right (by omega), hA, show i * 4 + j - i * 4 = j by omega]; exact hv)) (by simp [hl1, hT]; omega) (fun u hu => h1 u (List.mem_append_right _ hu))
    rw [hmin2] at this
    simpa using this
  replace hr3 := Lib.hid hr3
  have hL2 : L1.take ((i + 1) * 4) ++ T ++ L1.drop ((i + 1) * 4 + T.length) = A ++ x.cells ++ T ++ Z.drop (4 + T.length) := by
    have := laid_two A T Z x.cells (i * 4) rfl hA (by rw [hZl, hT]; omega)
    rw [show (i + 1) * 4 = i * 4 + 4 by omega, hL1]
    exact this
  have hl2 : (A ++ x.cells ++ T ++ Z.drop (4 + T.length)).length = G * 4 := by simp [hZl, hA, hT, Lvl.cells]; omega
  have ht2 : (A ++ x.cells ++ T ++ Z.drop (4 + T.length)).take ((n + 1) * 4) = A ++ x.cells ++ T := List.take_left' (by simp [hA, hT, Lvl.cells]; omega)
  have hxl : (A ++ x.cells ++ T).length = (n + 1) * 4 := by simp [hA, hT, Lvl.cells]; omega
  have hP : Hid (∀ W3, Below W2.heap.size W2 W3 → InsPost B (.slice (some ⟨g, 0, none⟩) n n) (n + 1) (A ++ x.cells ++ T) w (.returned (.slice (some ⟨w.heap.size, 0, none⟩) (n + 1) G)) (W3.setRow w.heap.size (L1.take ((i + 1) * 4) ++ T ++ L1.drop ((i + 1) * 4 + T.length)).toArray)) := Lib.hid (fun W3 h3 => by
    have hb4 : Below w.heap.size w (W3.setRow w.heap.size (L1.take ((i + 1) * 4) ++ T ++ L1.drop ((i + 1) * 4 + T.length)).toArray) := below_upd (below_ext hb02 h3) (Nat.le_refl _) ⟨rfl, rfl, rfl, by simp, fun q hq => setRow_other W3 _ q _ hq⟩
    refine ⟨_, rfl, ⟨hxl, .inr ⟨w.heap.size, G, _, rfl, hB, setRow_heap W3 _ _ _ _ _ (hW2.ext h3), hG, hGM, ?_, ?_⟩⟩, ⟨hb4.os, hb4.tape, hb4.output, hb4.size, fun q hq _ => hb4.block q hq⟩, .inr (fun b hb' => by simp [Value.ownBlock] at hb'; omega)⟩
    · rw [hL2, List.size_toArray, hl2]
    · rw [hL2, List.toList_toArray]; exact ht2)
  have hz2 := hW2.lt
  have e1 : ¬ ((i : Int) = (n : Int)) := by omega
  have e2 : ¬ (n = i) := by omega
  have e3 : (i : Int) ≤ (n : Int) := by omega
  have e4 : ¬ (G = i) := by omega
  have e5 : ¬ (G = i + 1) := by omega
  have hNn : (n : Int) ≤ 1000 := by omega
  have hGi : (G : Int) ≤ 9223372036854775807 := by unfold maxLen at hGM; omega
  replace hr1 := Lib.hid hr1
  clear hkn hcell hg hgb hg1 hg2 hx1 hW1 hX hb01 hb02 hU2 hB1 hL2 hl2 ht2 hxl hl1 hL1 hmin hmin2 ht hcs hcm hZl hW2 h1 hz hi
  go_enter Tryz.func74, Tryz.ntmps74
  go_wp2_with (first | (at_builtin; refine Lib.wpList_append_run _ rfl _ _ _ _ rfl _ _ rfl rfl _ _ (hr1.out _) ?_) | ((with_reducible show wpList _ _ _ (⟨_, .call ⟨.builtin .copy, _, _⟩, _, _, _, _⟩ :: _) _ W1); refine wpList_copy_run _ (by rfl) _ _ _ _ rfl _ _ rfl rfl _ _ (hr2.out _ _) ?_) | fail)
  have hs1 := cut_tail w.heap.size 0 (n + 1) G (i + 1) ((i : Int) + 1) (by omega) (by omega) e5
  have hs2 := cut_tail g 0 n n i (i : Int) rfl (by omega) e2
  rw [Nat.zero_add] at hs1 hs2
  have hsum : IntKind.i64.wrap ((i : Int) + 1) = (i : Int) + 1 := IntWalk.i64_in _ (by omega)
  refine wp_region_below_tail 8 (by kernel_rfl) (by kernel_rfl) ?_
  simp only [List.take_succ_cons, List.take_zero, List.drop_succ_cons, List.drop_zero]
  repeat (first | go_big_quiet_skip | (go_big_quiet_want; go_big_quiet_op; go_big_quiet_on) | ((first | (refine q_slice_from (by rfl) _ _ _ (by rfl) _ _ (by rfl) (by rfl) _ hs1 ?_) | (refine q_slice_from (by rfl) _ _ _ (by rfl) _ _ (by rfl) (by rfl) _ hs2 ?_)); (try simp only [Act.put, List.setIfInBounds_toArray, List.set_cons_zero, List.set_cons_succ])) | (refine q_load_fld (by rfl) _ _ (by rfl) (fun _ h => h) _ _ (by rfl) ?_ ?_ ?_ ?_ ?_ ?_; rotate_left; (next => (repeat (first | (with_reducible refine BlkAt.new _ _ _ _ ?_; ((try simp) <;> omega)) | (with_reducible assumption) | (with_reducible refine Blk.at (t := ?_) ?_; rotate_left; with_reducible assumption) | with_reducible refine BlkAt.alloc ?_ _ | with_reducible refine BlkAt.drew ?_ | (with_reducible refine BlkAt.setSame ?_ _ _) | (with_reducible refine BlkAt.setCell ?_ ?_ _; rotate_left; ((try simp) <;> omega)) | (with_reducible refine BlkAt.ext (w := ?_) ?_ ?_; rotate_left 2; (with_reducible assumption)) | fail))); rotate_left; (next => first | (simp only [go_sem]; rfl) | rfl); (next => kernel_rfl); (try simp only [Act.put, List.setIfInBounds_toArray, List.set_cons_zero, List.set_cons_succ])) | (refine q_rem (by rfl) _ _ _ _ (by rfl) _ _ (by rfl) (by rfl) (by kernel_rfl) (by kernel_rfl) ?_ ?_; (next => omega); (try simp only [Act.put, List.setIfInBounds_toArray, List.set_cons_zero, List.set_cons_succ])) | (refine q_step_ex (by rfl) ?_; apply Exists.intro; refine ⟨fun W hW => ?_, ?_⟩; (next => (have hWc := fun (b o : Nat) (h : b < _) => (Ext.out hW).cell (p := ⟨b, o, none⟩) h); (try have hLK := HLK.out W (Ext.out hW)); go_simp; first | rfl | fail | fail); (try simp only [Act.put, List.setIfInBounds_toArray, List.set_cons_zero, List.set_cons_succ])) | fail)
  refine wpQuiet_nil ?_
  intro w3 hb3
  refine wpList_copy_run _ (by rfl) _ _ _ _ (by rfl) _ _ (by rfl) (by rfl) _ _ (hr3.out _ hb3 _ _) ?_
  simp only [Act.put, List.setIfInBounds_toArray, List.set_cons_zero, List.set_cons_succ]
  refine wpList_nil ?_
  go_wp2_with fail
  go_ret
  exact hP.out w3 hb3


/-- Ahead of some, where there is room. -/
theorem insert_shift {g i k cap : Nat} {A T : List Value} (hown : w.ownsRow B 156 4 (.slice (some ⟨g, 0, none⟩) n cap) n (A ++ T)) (hk : Hid (n = i + k)) (hin : i < n) (hroom : n + 1 ≤ cap) (hA : A.length = i * 4) (hT : T.length = k * 4) (h1 : ∀ u ∈ A ++ T, u.oneCell' = true) (hn : n ≤ 1000) (hX : Blk w bx 156 x.arr) (hne : bx ≠ g) (hB : B ≤ w.heap.size) :
    Calls Tryz.prog 74 #[.slice (some ⟨g, 0, none⟩) n cap, .int .i64 i, .slice (some ⟨bx, 0, none⟩) 1 1] w (InsPost B (.slice (some ⟨g, 0, none⟩) n cap) (n + 1) (A ++ x.cells ++ T) w) := by
  obtain ⟨ti, hi, hz, hs, hb⟩ := info_lvl
  have hkn := hk.out
  obtain ⟨hxs, h0 | ⟨g', cap', cur, he, hbg, hg, hnc, hcm, hcs, ht⟩⟩ := hown
  · cases h0.1
  injection he with he1 _ he3
  injection he1 with he1
  injection he1 with he1
  subst he1 he3
  have hgb : Blk w g 156 cur := hg
  have hgl := hgb.lt
  obtain ⟨Z, hZ⟩ : ∃ Z, Z = cur.toList.drop (n * 4) := ⟨_, rfl⟩
  have hcur : cur.toList = A ++ T ++ Z := by rw [hZ, ← ht, List.take_append_drop]
  have hZl : Z.length = (cap - n) * 4 := by rw [hZ, List.length_drop, Array.length_toList, hcs]; omega
  clear hZ
  have hcell : ∀ j u, (A ++ T)[j]? = some u → w.cell? ⟨g, j, none⟩ = some u := fun j u hu => by
    rw [hgb.cell, ← Array.getElem?_toList, hcur, List.getElem?_append_left (List.getElem?_eq_some_iff.1 hu).1]
    exact hu
  have hoz : cur.size ≠ 0 := by rw [hcs]; omega
  have hov1 := fun lb cb => hov w bx g ((i + 1) * 4) lb cb 156 156 _ _ hX hgb hne hoz
  have hmin : Nat.min (n + 1 - i) (n + 1 - (i + 1)) = k := by simp only [Nat.min_def]; rw [if_neg (by omega)]; omega
  have hmin1 : Nat.min 1 (n + 1 - i) = 1 := by simp only [Nat.min_def]; rw [if_pos (by omega)]
  obtain ⟨L1, hL1⟩ : ∃ L1, L1 = (A ++ T ++ Z).take ((i + 1) * 4) ++ T ++ (A ++ T ++ Z).drop ((i + 1) * 4 + T.length) := ⟨_, rfl⟩
  have hl1 : L1.length = cap * 4 := by rw [hL1]; simp [hZl, hA, hT]; omega
  have hr1 : ∀ W3, Below w.heap.size w W3 → ∀ (dc sc : Nat) ty, (Builtin.copy_ #[138, 138] ty #[.slice (some ⟨g, (i + 1) * 4, none⟩) (n + 1 - (i + 1)) dc, .slice (some ⟨g, i * 4, none⟩) (n + 1 - i) sc]).run Tryz.prog W3 = .ok (goInt (k : Nat)) (W3.setRow g L1.toArray) := fun W3 h3 dc sc ty => by
    have := run_copy_rows (P := Tryz.prog) W3 138 138 ty 156 4 g ((i + 1) * 4) (n + 1 - (i + 1)) dc ⟨g, i * 4, none⟩ (n + 1 - i) sc cur 156 T Tryz.underlying138 (by rw [hi]; simp [hs]) (hgb.ext h3) (by rw [hmin, hT]) (fun j v hv => by
      rw [addr_add, (hgb.ext h3).cell, ← hgb.cell]
      exact hcell _ v (by rw [List.getElem?_append_right (by omega), hA, show i * 4 + j - i * 4 = j by omega]; exact hv)) (by rw [hcs, hT]; omega) (fun u hu => h1 u (List.mem_append_right _ hu))
    rw [hmin, hcur, ← hL1] at this
    exact this
  have hL2 : L1.take (i * 4) ++ x.cells ++ L1.drop (i * 4 + x.cells.length) = A ++ x.cells ++ T ++ Z.drop 4 := by
    have := laid_shift A T Z x.cells (i * 4) rfl hA (by rw [hZl]; omega)
    rw [hL1, show (i + 1) * 4 = i * 4 + 4 by omega]
    exact this
  obtain ⟨L2, hL2e⟩ : ∃ L2, L2 = A ++ x.cells ++ T ++ Z.drop 4 := ⟨_, rfl⟩
  rw [← hL2e] at hL2
  have hB3 : ∀ W3, Below w.heap.size w W3 → Blk (W3.setRow g L1.toArray) g 156 L1.toArray := fun W3 h3 => setRow_heap W3 _ _ _ _ _ (hgb.ext h3)
  have hU3 : ∀ W3, Upd g W3 (W3.setRow g L1.toArray) := fun W3 => ⟨rfl, rfl, rfl, by simp, fun q hq => setRow_other W3 _ q _ hq⟩
  have hr2 : ∀ W3, Below w.heap.size w W3 → ∀ (dc sc : Nat) ty, (Builtin.copy_ #[138, 138] ty #[.slice (some ⟨g, i * 4, none⟩) (n + 1 - i) dc, .slice (some ⟨bx, 0, none⟩) 1 sc]).run Tryz.prog (W3.setRow g L1.toArray) = .ok (goInt (1 : Nat)) ((W3.setRow g L1.toArray).setRow g L2.toArray) := fun W3 h3 dc sc ty => by
    have := run_copy_rows (P := Tryz.prog) (W3.setRow g L1.toArray) 138 138 ty 156 4 g (i * 4) (n + 1 - i) dc ⟨bx, 0, none⟩ 1 sc L1.toArray 156 x.cells Tryz.underlying138 (by rw [hi]; simp [hs]) (hB3 W3 h3) (by rw [hmin1]; rfl) (lvl_at ((hX.ext h3).upd hne (hU3 W3))) (by simp [hl1, Lvl.cells]; omega) (lvl_one x)
    rw [hmin1, List.toList_toArray, hL2] at this
    exact this
  have hl2 : L2.length = cap * 4 := by rw [hL2e]; simp [hZl, hA, hT, Lvl.cells]; omega
  have ht2 : L2.take ((n + 1) * 4) = A ++ x.cells ++ T := by rw [hL2e]; exact List.take_left' (by simp [hA, hT, Lvl.cells]; omega)
  have hxl : (A ++ x.cells ++ T).length = (n + 1) * 4 := by simp [hA, hT, Lvl.cells]; omega
  have hP : Hid (∀ W3, Below w.heap.size w W3 → InsPost B (.slice (some ⟨g, 0, none⟩) n cap) (n + 1) (A ++ x.cells ++ T) w (.returned (.slice (some ⟨g, 0, none⟩) (n + 1) cap)) ((W3.setRow g L1.toArray).setRow g L2.toArray)) := Lib.hid (fun W3 h3 => by
    have hU4 : Upd g (W3.setRow g L1.toArray) ((W3.setRow g L1.toArray).setRow g L2.toArray) := ⟨rfl, rfl, rfl, by simp, fun q hq => setRow_other _ _ q _ hq⟩
    have hU := (hU3 W3).trans hU4
    refine ⟨_, rfl, ⟨hxl, .inr ⟨g, cap, _, rfl, hbg, setRow_heap _ _ _ _ _ _ (hB3 W3 h3), hroom, hcm, by rw [List.size_toArray, hl2], by rw [List.toList_toArray]; exact ht2⟩⟩, ⟨hU.os.trans h3.os, hU.tape.trans h3.tape, hU.output.trans h3.output, Nat.le_trans h3.size (Nat.le_of_eq hU.size.symm), fun q hq hne' => (hU.block q (by simpa [Value.ownBlock] using hne')).trans (h3.block q hq)⟩, .inl rfl⟩)
  have e1 : ¬ ((i : Int) = (n : Int)) := by omega
  have e2 : ¬ (cap = i) := by omega
  have e3 : (i : Int) ≤ (n : Int) := by omega
  have e5 : ¬ (cap = i + 1) := by omega
  have e6 : ((n : Int) + 1) ≤ (cap : Int) := by omega
  have e7 : (cap : Int) ≤ 9223372036854775807 := by unfold maxLen at hcm; omega
  have hs1 := cut_tail g 0 (n + 1) cap (i + 1) ((i : Int) + 1) (by omega) (by omega) e5
  have hs2 := cut_tail g 0 (n + 1) cap i (i : Int) rfl (by omega) e2
  rw [Nat.zero_add] at hs1 hs2
  have hsum : IntKind.i64.wrap ((i : Int) + 1) = (i : Int) + 1 := IntWalk.i64_in _ (by omega)
  replace hr1 := Lib.hid hr1
  replace hr2 := Lib.hid hr2
  replace hov1 := Lib.hid hov1
  clear hkn hcell hg hgb hX hL2 hL2e hl2 ht2 hxl hl1 hL1 hmin hmin1 ht hcs hcm hZl h1 hz hi hB3 hU3 hcur hoz hxs
  go_enter Tryz.func74, Tryz.ntmps74
  go_wp2_with (simp only [hov1.out])
  refine wp_region_below_tail 8 (by kernel_rfl) (by kernel_rfl) ?_
  simp only [List.take_succ_cons, List.take_zero, List.drop_succ_cons, List.drop_zero]
  repeat (first | go_big_quiet_skip | (go_big_quiet_want; go_big_quiet_op; go_big_quiet_on) | ((first | (refine q_slice_from (by rfl) _ _ _ (by rfl) _ _ (by rfl) (by rfl) _ hs1 ?_) | (refine q_slice_from (by rfl) _ _ _ (by rfl) _ _ (by rfl) (by rfl) _ hs2 ?_)); (try simp only [Act.put, List.setIfInBounds_toArray, List.set_cons_zero, List.set_cons_succ])) | (refine q_load_fld (by rfl) _ _ (by rfl) (fun _ h => h) _ _ (by rfl) ?_ ?_ ?_ ?_ ?_ ?_; rotate_left; (next => (repeat (first | (with_reducible refine BlkAt.new _ _ _ _ ?_; ((try simp) <;> omega)) | (with_reducible assumption) | (with_reducible refine Blk.at (t := ?_) ?_; rotate_left; with_reducible assumption) | with_reducible refine BlkAt.alloc ?_ _ | with_reducible refine BlkAt.drew ?_ | (with_reducible refine BlkAt.setSame ?_ _ _) | (with_reducible refine BlkAt.setCell ?_ ?_ _; rotate_left; ((try simp) <;> omega)) | (with_reducible refine BlkAt.ext (w := ?_) ?_ ?_; rotate_left 2; (with_reducible assumption)) | fail))); rotate_left; (next => first | (simp only [go_sem]; rfl) | rfl); (next => kernel_rfl); (try simp only [Act.put, List.setIfInBounds_toArray, List.set_cons_zero, List.set_cons_succ])) | (refine q_rem (by rfl) _ _ _ _ (by rfl) _ _ (by rfl) (by rfl) (by kernel_rfl) (by kernel_rfl) ?_ ?_; (next => omega); (try simp only [Act.put, List.setIfInBounds_toArray, List.set_cons_zero, List.set_cons_succ])) | (refine q_step_ex (by rfl) ?_; apply Exists.intro; refine ⟨fun W hW => ?_, ?_⟩; (next => (have hWc := fun (b o : Nat) (h : b < _) => (Ext.out hW).cell (p := ⟨b, o, none⟩) h); (try have hLK := HLK.out W (Ext.out hW)); go_simp; first | rfl | fail | fail); (try simp only [Act.put, List.setIfInBounds_toArray, List.set_cons_zero, List.set_cons_succ])) | fail)
  refine wpQuiet_nil ?_
  intro w3 hb3
  refine wpList_copy_run _ (by rfl) _ _ _ _ (by rfl) _ _ (by rfl) (by rfl) _ _ (hr1.out _ hb3 _ _) ?_
  simp only [Act.put, List.setIfInBounds_toArray, List.set_cons_zero, List.set_cons_succ]
  refine wpList_nil ?_
  go_wp2_with (first | ((with_reducible show wpList _ _ _ (⟨_, .call ⟨.builtin .copy, _, _⟩, _, _, _, _⟩ :: _) _ _); refine wpList_copy_run _ (by rfl) _ _ _ _ rfl _ _ rfl rfl _ _ (hr2.out _ hb3 _ _) ?_) | fail)
  go_ret
  exact hP.out w3 hb3
/-- One level put in, at any place. -/
theorem insert_any (hown : w.ownsRow B 156 4 v ls.length (flatL ls)) (hn : ls.length ≤ 1000) (hX : Blk w bx 156 x.arr) (hne : v.ownBlock ≠ some bx) (hB : B ≤ w.heap.size) (la lb : List Lvl) (hl : ls = la ++ lb) :
    Calls Tryz.prog 74 #[v, .int .i64 la.length, .slice (some ⟨bx, 0, none⟩) 1 1] w (InsPost B v (ls.length + 1) (flatL (la ++ x :: lb)) w) := by
  by_cases h0 : lb = []
  · subst h0
    rw [List.append_nil] at hl
    subst hl
    exact insert_end hown hn hX hB
  · have hlb : 0 < lb.length := List.length_pos_iff.2 h0
    have hx : flatL (la ++ x :: lb) = flatL la ++ x.cells ++ flatL lb := by
      rw [flatL_app]
      simp [flatL]
    have hlen : ls.length = la.length + lb.length := by rw [hl, List.length_append]
    have h1 : ∀ u ∈ flatL la ++ flatL lb, u.oneCell' = true := fun u hu => by
      rw [← flatL_app] at hu
      exact flatL_one _ u hu
    rw [show flatL ls = flatL la ++ flatL lb by rw [hl, flatL_app]] at hown
    rw [hx]
    rcases hown.2 with ⟨rfl, h2⟩ | ⟨g, cap, cur, rfl, hbg, hg, hnc, hcm, hcs, ht⟩
    · omega
    · by_cases hroom : ls.length + 1 ≤ cap
      · exact insert_shift hown (Lib.hid hlen) (by omega) hroom (by rw [flatL_len]) (by rw [flatL_len]) h1 hn hX (fun e => hne (by rw [e]; rfl)) hB
      · have hc : cap = ls.length := by omega
        subst hc
        exact insert_grow hown (Lib.hid hlen) (by omega) (by rw [flatL_len]) (by rw [flatL_len]) h1 hn hX hB
end
end Lad
end Go.Proofs.YtacpjpkhmdcagaaGreat
namespace Go.Proofs.YtacpjpkhmdcagaaGreat
set_option linter.unusedVariables false
open Go.RowKit
namespace Lad
set_option maxHeartbeats 2000000
set_option maxRecDepth 10000
theorem cut_head (b len cap k : Nat) (hk : k ≤ cap) (hc : 0 < cap) (W : World) : (Instr.sliceAt 138 (.slice (some ⟨b, 0, none⟩) len cap) none (some (.int .i64 k)) none).run Tryz.prog W = .ok (.slice (some ⟨b, 0, none⟩) k cap) W := by
  have ht : Tryz.prog.underlying 138 = some (.slice (Tryz.prog.elem 138)) := by kernel_rfl
  have he : Tryz.prog.elem 138 = 156 := by kernel_rfl
  obtain ⟨i, hi, hz, hs, hby⟩ := info_lvl
  rw [run_sliceAt_slice (h := ht), run_slice_h (ht := ht) (kh := .i64) (h := (k : Int)) (cap := cap) (h0 := by omega) (h2 := by omega), he]
  have h0 : ¬ cap = 0 := by omega
  simp [sizeOf, typeInfo, hi, sliced, h0, addr_add]
theorem cut_tail' (b len cap k : Nat) (x : Int) (hx : x = k) (hk : k ≤ len) : ∃ a : Addr, (∀ W, (Instr.sliceAt 138 (.slice (some ⟨b, 0, none⟩) len cap) (some (.int .i64 x)) none none).run Tryz.prog W = .ok (.slice (some a) (len - k) (cap - k)) W) ∧ (¬ (cap = k) → a = ⟨b, k * 4, none⟩) := by
  by_cases hc : cap = k
  · subst hx
    have ht : Tryz.prog.underlying 138 = some (.slice (Tryz.prog.elem 138)) := by kernel_rfl
    have he : Tryz.prog.elem 138 = 156 := by kernel_rfl
    obtain ⟨i, hi, hz, hs, hby⟩ := info_lvl
    refine ⟨⟨b, 0, none⟩, fun W => ?_, fun h => absurd hc h⟩
    rw [run_sliceAt_slice (h := ht), run_slice_l (ht := ht) (kl := .i64) (l := (k : Int)) (len := len) (h0 := by omega) (h1 := by omega), he]
    simp only [sizeOf, typeInfo, Sem.run_bind]
    simp [hi, sliced, hs, hc]
  · refine ⟨⟨b, k * 4, none⟩, fun W => ?_, fun _ => rfl⟩
    have := cut_tail b 0 len cap k x hx hk hc W
    rw [Nat.zero_add] at this
    exact this
/-- All but one block is as it was. -/
structure DelW (g : Nat) (w w' : World) : Prop where
  os : w'.os = w.os
  tape : w'.tape = w.tape
  output : w'.output = w.output
  size : w.heap.size ≤ w'.heap.size
  block : ∀ k, k < w.heap.size → k ≠ g → w'.heap[k]? = w.heap[k]?
section
variable {w : World} {B n : Nat}
end
end Lad
end Go.Proofs.YtacpjpkhmdcagaaGreat
