/- This text proves lemmas about the program's flat structs: how each reads as data. It has no conditions of its own. This text proves laws for regions whose order is open: where every operation, in every world that extends the one at hand, yields one value and leaves such a world, one walk in the order of the text serves every order. It has no conditions of its own. -/
import Derived.Test.YtacpjpkhmdcagaaGreatLib
import Derived.BigQuiet
import Derived.StillTail
import Derived.WalkKit
import Derived.Deep.MidRow
namespace Go.Proofs.YtacpjpkhmdcagaaGreat
open Go.ChangeShapes Go.WideShapes Go.ChangeAt Go.RowKit Go.Deep
set_option linter.unusedVariables false

def I64 (n : Int) : Prop := -9223372036854775808 ≤ n ∧ n ≤ 9223372036854775807
theorem I64.of_wf {n : Int} (h : (Lit.int .i64 n).wf = true) : I64 n := by
  simp [Lit.wf, IntKind.min, IntKind.max, IntKind.signed, IntKind.bits] at h
  exact h
abbrev K : Kd := some .i64

structure Sym where
  (grid ref static dynamic window move limit pause ext maxExt collar widen self slots levels short : Int)
structure Ord where
  (id owner side price qty flags seq : Int)
structure Msg where
  (kind sym seq tick id wth price qty code : Int)
structure Row where
  (tick phase : Int)
structure Edt where
  (op a b : Int)

theorem fitInt {vs : List Value} {ks : List Kd} (h : fits (K :: ks) vs) : ∃ n vs', vs = .int .i64 n :: vs' ∧ I64 n ∧ fits ks vs' := by
  obtain ⟨v, vs', rfl, ⟨n, rfl, hw⟩, h⟩ := h
  exact ⟨n, vs', rfl, I64.of_wf hw, h⟩
theorem fitBool {vs : List Value} {ks : List Kd} (h : fits ((none : Kd) :: ks) vs) : ∃ n vs', vs = .bool n :: vs' ∧ fits ks vs' := by
  obtain ⟨v, vs', rfl, ⟨n, rfl⟩, h⟩ := h
  exact ⟨n, vs', rfl, h⟩
theorem fitNil {vs : List Value} (h : fits [] vs) : vs = [] := h

def Sym.cells (s : Sym) : List Value := [.int .i64 s.grid, .int .i64 s.ref, .int .i64 s.static, .int .i64 s.dynamic, .int .i64 s.window, .int .i64 s.move, .int .i64 s.limit, .int .i64 s.pause, .int .i64 s.ext, .int .i64 s.maxExt, .int .i64 s.collar, .int .i64 s.widen, .int .i64 s.self, .int .i64 s.slots, .int .i64 s.levels, .int .i64 s.short]
def Ord.cells (s : Ord) : List Value := [.int .i64 s.id, .int .i64 s.owner, .int .i64 s.side, .int .i64 s.price, .int .i64 s.qty, .int .i64 s.flags, .int .i64 s.seq]
def Msg.cells (s : Msg) : List Value := [.int .i64 s.kind, .int .i64 s.sym, .int .i64 s.seq, .int .i64 s.tick, .int .i64 s.id, .int .i64 s.wth, .int .i64 s.price, .int .i64 s.qty, .int .i64 s.code]
def Row.cells (s : Row) : List Value := [.int .i64 s.tick, .int .i64 s.phase]
def Edt.cells (s : Edt) : List Value := [.int .i64 s.op, .int .i64 s.a, .int .i64 s.b]

def Sym.arr (s : Sym) : Array Value := s.cells.toArray
@[go_sem] theorem Sym.arr_size (s : Sym) : s.arr.size = 16 := rfl
@[go_sem] theorem Sym.arr_0 (s : Sym) : s.arr[0]? = some (.int .i64 s.grid) := rfl
@[go_sem] theorem Sym.arr_1 (s : Sym) : s.arr[1]? = some (.int .i64 s.ref) := rfl
@[go_sem] theorem Sym.arr_2 (s : Sym) : s.arr[2]? = some (.int .i64 s.static) := rfl
@[go_sem] theorem Sym.arr_3 (s : Sym) : s.arr[3]? = some (.int .i64 s.dynamic) := rfl
@[go_sem] theorem Sym.arr_4 (s : Sym) : s.arr[4]? = some (.int .i64 s.window) := rfl
@[go_sem] theorem Sym.arr_5 (s : Sym) : s.arr[5]? = some (.int .i64 s.move) := rfl
@[go_sem] theorem Sym.arr_6 (s : Sym) : s.arr[6]? = some (.int .i64 s.limit) := rfl
@[go_sem] theorem Sym.arr_7 (s : Sym) : s.arr[7]? = some (.int .i64 s.pause) := rfl
@[go_sem] theorem Sym.arr_8 (s : Sym) : s.arr[8]? = some (.int .i64 s.ext) := rfl
@[go_sem] theorem Sym.arr_9 (s : Sym) : s.arr[9]? = some (.int .i64 s.maxExt) := rfl
@[go_sem] theorem Sym.arr_10 (s : Sym) : s.arr[10]? = some (.int .i64 s.collar) := rfl
@[go_sem] theorem Sym.arr_11 (s : Sym) : s.arr[11]? = some (.int .i64 s.widen) := rfl
@[go_sem] theorem Sym.arr_12 (s : Sym) : s.arr[12]? = some (.int .i64 s.self) := rfl
@[go_sem] theorem Sym.arr_13 (s : Sym) : s.arr[13]? = some (.int .i64 s.slots) := rfl
@[go_sem] theorem Sym.arr_14 (s : Sym) : s.arr[14]? = some (.int .i64 s.levels) := rfl
@[go_sem] theorem Sym.arr_15 (s : Sym) : s.arr[15]? = some (.int .i64 s.short) := rfl
theorem Sym.cells_arr (s : Sym) : s.cells.toArray = s.arr := rfl

def Ord.arr (s : Ord) : Array Value := s.cells.toArray
@[go_sem] theorem Ord.arr_size (s : Ord) : s.arr.size = 7 := rfl
@[go_sem] theorem Ord.arr_0 (s : Ord) : s.arr[0]? = some (.int .i64 s.id) := rfl
@[go_sem] theorem Ord.arr_1 (s : Ord) : s.arr[1]? = some (.int .i64 s.owner) := rfl
@[go_sem] theorem Ord.arr_2 (s : Ord) : s.arr[2]? = some (.int .i64 s.side) := rfl
@[go_sem] theorem Ord.arr_3 (s : Ord) : s.arr[3]? = some (.int .i64 s.price) := rfl
@[go_sem] theorem Ord.arr_4 (s : Ord) : s.arr[4]? = some (.int .i64 s.qty) := rfl
@[go_sem] theorem Ord.arr_5 (s : Ord) : s.arr[5]? = some (.int .i64 s.flags) := rfl
@[go_sem] theorem Ord.arr_6 (s : Ord) : s.arr[6]? = some (.int .i64 s.seq) := rfl
theorem Ord.cells_arr (s : Ord) : s.cells.toArray = s.arr := rfl

def Msg.arr (s : Msg) : Array Value := s.cells.toArray
@[go_sem] theorem Msg.arr_size (s : Msg) : s.arr.size = 9 := rfl
@[go_sem] theorem Msg.arr_0 (s : Msg) : s.arr[0]? = some (.int .i64 s.kind) := rfl
@[go_sem] theorem Msg.arr_1 (s : Msg) : s.arr[1]? = some (.int .i64 s.sym) := rfl
@[go_sem] theorem Msg.arr_2 (s : Msg) : s.arr[2]? = some (.int .i64 s.seq) := rfl
@[go_sem] theorem Msg.arr_3 (s : Msg) : s.arr[3]? = some (.int .i64 s.tick) := rfl
@[go_sem] theorem Msg.arr_4 (s : Msg) : s.arr[4]? = some (.int .i64 s.id) := rfl
@[go_sem] theorem Msg.arr_5 (s : Msg) : s.arr[5]? = some (.int .i64 s.wth) := rfl
@[go_sem] theorem Msg.arr_6 (s : Msg) : s.arr[6]? = some (.int .i64 s.price) := rfl
@[go_sem] theorem Msg.arr_7 (s : Msg) : s.arr[7]? = some (.int .i64 s.qty) := rfl
@[go_sem] theorem Msg.arr_8 (s : Msg) : s.arr[8]? = some (.int .i64 s.code) := rfl
theorem Msg.cells_arr (s : Msg) : s.cells.toArray = s.arr := rfl

def Row.arr (s : Row) : Array Value := s.cells.toArray
@[go_sem] theorem Row.arr_size (s : Row) : s.arr.size = 2 := rfl
@[go_sem] theorem Row.arr_0 (s : Row) : s.arr[0]? = some (.int .i64 s.tick) := rfl
@[go_sem] theorem Row.arr_1 (s : Row) : s.arr[1]? = some (.int .i64 s.phase) := rfl
theorem Row.cells_arr (s : Row) : s.cells.toArray = s.arr := rfl

def Edt.arr (s : Edt) : Array Value := s.cells.toArray
@[go_sem] theorem Edt.arr_size (s : Edt) : s.arr.size = 3 := rfl
@[go_sem] theorem Edt.arr_0 (s : Edt) : s.arr[0]? = some (.int .i64 s.op) := rfl
@[go_sem] theorem Edt.arr_1 (s : Edt) : s.arr[1]? = some (.int .i64 s.a) := rfl
@[go_sem] theorem Edt.arr_2 (s : Edt) : s.arr[2]? = some (.int .i64 s.b) := rfl
theorem Edt.cells_arr (s : Edt) : s.cells.toArray = s.arr := rfl

theorem fitSym {vs : List Value} (h : fits (List.replicate 16 K) vs) : ∃ s : Sym, vs = s.cells ∧ I64 s.limit ∧ I64 s.grid ∧ I64 s.short := by
  obtain ⟨a0, _, rfl, b0, h⟩ := fitInt h
  obtain ⟨a1, _, rfl, b1, h⟩ := fitInt h
  obtain ⟨a2, _, rfl, b2, h⟩ := fitInt h
  obtain ⟨a3, _, rfl, b3, h⟩ := fitInt h
  obtain ⟨a4, _, rfl, b4, h⟩ := fitInt h
  obtain ⟨a5, _, rfl, b5, h⟩ := fitInt h
  obtain ⟨a6, _, rfl, b6, h⟩ := fitInt h
  obtain ⟨a7, _, rfl, b7, h⟩ := fitInt h
  obtain ⟨a8, _, rfl, b8, h⟩ := fitInt h
  obtain ⟨a9, _, rfl, b9, h⟩ := fitInt h
  obtain ⟨a10, _, rfl, b10, h⟩ := fitInt h
  obtain ⟨a11, _, rfl, b11, h⟩ := fitInt h
  obtain ⟨a12, _, rfl, b12, h⟩ := fitInt h
  obtain ⟨a13, _, rfl, b13, h⟩ := fitInt h
  obtain ⟨a14, _, rfl, b14, h⟩ := fitInt h
  obtain ⟨a15, _, rfl, b15, h⟩ := fitInt h
  obtain rfl := fitNil h
  exact ⟨⟨a0, a1, a2, a3, a4, a5, a6, a7, a8, a9, a10, a11, a12, a13, a14, a15⟩, rfl, b6, b0, b15⟩
theorem fitOrd {vs : List Value} (h : fits (List.replicate 7 K) vs) : ∃ s : Ord, vs = s.cells ∧ I64 s.price := by
  obtain ⟨a0, _, rfl, b0, h⟩ := fitInt h
  obtain ⟨a1, _, rfl, b1, h⟩ := fitInt h
  obtain ⟨a2, _, rfl, b2, h⟩ := fitInt h
  obtain ⟨a3, _, rfl, b3, h⟩ := fitInt h
  obtain ⟨a4, _, rfl, b4, h⟩ := fitInt h
  obtain ⟨a5, _, rfl, b5, h⟩ := fitInt h
  obtain ⟨a6, _, rfl, b6, h⟩ := fitInt h
  obtain rfl := fitNil h
  exact ⟨⟨a0, a1, a2, a3, a4, a5, a6⟩, rfl, b3⟩
theorem fitMsg {vs : List Value} (h : fits (List.replicate 9 K) vs) : ∃ s : Msg, vs = s.cells := by
  obtain ⟨a0, _, rfl, b0, h⟩ := fitInt h
  obtain ⟨a1, _, rfl, b1, h⟩ := fitInt h
  obtain ⟨a2, _, rfl, b2, h⟩ := fitInt h
  obtain ⟨a3, _, rfl, b3, h⟩ := fitInt h
  obtain ⟨a4, _, rfl, b4, h⟩ := fitInt h
  obtain ⟨a5, _, rfl, b5, h⟩ := fitInt h
  obtain ⟨a6, _, rfl, b6, h⟩ := fitInt h
  obtain ⟨a7, _, rfl, b7, h⟩ := fitInt h
  obtain ⟨a8, _, rfl, b8, h⟩ := fitInt h
  obtain rfl := fitNil h
  exact ⟨⟨a0, a1, a2, a3, a4, a5, a6, a7, a8⟩, rfl⟩
theorem fitRow {vs : List Value} (h : fits (List.replicate 2 K) vs) : ∃ s : Row, vs = s.cells ∧ I64 s.tick ∧ I64 s.phase := by
  obtain ⟨a0, _, rfl, b0, h⟩ := fitInt h
  obtain ⟨a1, _, rfl, b1, h⟩ := fitInt h
  obtain rfl := fitNil h
  exact ⟨⟨a0, a1⟩, rfl, b0, b1⟩
theorem fitEdt {vs : List Value} (h : fits (List.replicate 3 K) vs) : ∃ s : Edt, vs = s.cells ∧ I64 s.op ∧ I64 s.a ∧ I64 s.b := by
  obtain ⟨a0, _, rfl, b0, h⟩ := fitInt h
  obtain ⟨a1, _, rfl, b1, h⟩ := fitInt h
  obtain ⟨a2, _, rfl, b2, h⟩ := fitInt h
  obtain rfl := fitNil h
  exact ⟨⟨a0, a1, a2⟩, rfl, b0, b1, b2⟩

theorem fitState {vs : List Value} (h : fits [(none : Kd), K] vs) : ∃ b n, vs = [.bool b, .int .i64 n] ∧ I64 n := by
  obtain ⟨b, v1, e1, h1⟩ := fitBool h
  obtain ⟨n, v2, e2, hn, h2⟩ := fitInt h1
  obtain rfl := fitNil h2
  subst e2
  exact ⟨b, n, e1, hn⟩

/-- Rows that each read as data of one kind are the image of a list of such data. -/
theorem rowsOf {α : Type} {c : α → List Value} {Q : α → Prop} {ks : List Kd} (h : ∀ vs, fits ks vs → ∃ x, vs = c x ∧ Q x) : ∀ l : List (List Value), (∀ x ∈ l, fits ks x) → ∃ xs : List α, l = xs.map c ∧ ∀ x ∈ xs, Q x
  | [], _ => ⟨[], rfl, by simp⟩
  | v :: l, hl => by
    obtain ⟨x, rfl, hx⟩ := h v (hl v (List.mem_cons_self ..))
    obtain ⟨xs, rfl, hxs⟩ := rowsOf h l (fun y hy => hl y (List.mem_cons_of_mem _ hy))
    exact ⟨x :: xs, rfl, by simpa using ⟨hx, hxs⟩⟩

def intC (n : Int) : List Value := [.int .i64 n]
def boolC (n : Bool) : List Value := [.bool n]
theorem fitIntC {vs : List Value} (h : fits [K] vs) : ∃ n, vs = intC n ∧ I64 n := by
  obtain ⟨a0, _, rfl, b0, h⟩ := fitInt h
  obtain rfl := fitNil h
  exact ⟨a0, rfl, b0⟩
theorem fitBoolC {vs : List Value} (h : fits [(none : Kd)] vs) : ∃ n, vs = boolC n ∧ True := by
  obtain ⟨a0, v', e, h'⟩ := fitBool h
  obtain rfl := fitNil h'
  exact ⟨a0, e, trivial⟩

/-- A typed slice's cell. -/
theorem Rd.at {α : Type} {c : α → List Value} {w : World} {k : Nat} {A : Option Addr} {xs : List α} (h : Rd w k A (xs.map c)) {i : Nat} (hi : i < xs.length) :
    ∃ b off, A = some ⟨b, off, none⟩ ∧ ∀ j u, (c (xs[i]'hi))[j]? = some u → w.cell? ⟨b, off + (i * k + j), none⟩ = some u := by
  obtain ⟨b, off, rfl, hc⟩ := h (by intro h0; have : xs.length = 0 := by simpa using congrArg List.length h0
                                    omega)
  refine ⟨b, off, rfl, fun j u hu => hc i j u ?_⟩
  simpa [List.getD_eq_getElem?_getD, List.getElem?_eq_getElem hi] using hu

/-! ### a whole block, loaded -/
/-- Where a block lies in a world that is written out. -/
theorem heapAt0 (w : World) (o : Obj) : (w.alloc o).heap[w.heap.size]? = some o := Go.heap_alloc_new w o
theorem heapAtLt (w : World) (o : Obj) (i : Nat) (h : i < w.heap.size) : (w.alloc o).heap[i]? = w.heap[i]? := Below.heap_alloc w o i h
theorem heapAtSet (w : World) (a : Addr) (k : Nat) (v : Value) (h : k ≠ a.block) : (w.setCell a v).heap[k]? = w.heap[k]? := Below.heap_setCell w a v k h

theorem sz_alloc (w : World) (o : Obj) : (w.alloc o).heap.size = w.heap.size + 1 := by show (w.heap.push o).size = _; simp
theorem sz_setCell (w : World) (a : Addr) (u : Value) : (w.setCell a u).heap.size = w.heap.size := by simp [World.setCell]
theorem sz_drew (w : World) : w.drew.heap.size = w.heap.size := rfl
theorem sz_drewN (w : World) (n : Nat) : (w.drewN n).heap.size = w.heap.size := rfl
theorem below_alloc {w w1 : World} (h : Below w.heap.size w w1) (o : Obj) : Below w.heap.size w (w1.alloc o) := h.alloc h.size o
theorem below_ext {w w1 w2 : World} (h : Below w.heap.size w w1) (k : Below w1.heap.size w1 w2) : Below w.heap.size w w2 := h.trans (k.mono h.size)
theorem below_drewN {B : Nat} {w w1 : World} (h : Below B w w1) (n : Nat) : Below B w (w1.drewN n) := ⟨h.os, h.tape, h.output, h.size, h.block⟩
/-- 'v' points to a whole block that holds 'cs'. -/
def BlkAt (w : World) (v : Value) (cs : Array Value) : Prop := ∃ g t fr, v = .pointer (some ⟨g, 0, none⟩) ∧ w.heap[g]? = some (.cells cs t fr)
theorem BlkAt.new (w : World) (cs : Array Value) (t : TypeId) (n : Nat) (h : w.heap.size = n) : BlkAt (w.alloc (.cells cs t)) (.pointer (some ⟨n, 0, none⟩)) cs :=
  ⟨n, t, _, rfl, by rw [← h]; exact Go.heap_alloc_new w _⟩
theorem heap_lt {w : World} {g : Nat} {o : Obj} (h : w.heap[g]? = some o) : g < w.heap.size := (Array.getElem?_eq_some_iff.1 h).1
theorem BlkAt.alloc {w : World} {v : Value} {cs : Array Value} (h : BlkAt w v cs) (o : Obj) : BlkAt (w.alloc o) v cs := by
  obtain ⟨g, t, fr, rfl, hg⟩ := h
  exact ⟨g, t, fr, rfl, (heapAtLt w o g (heap_lt hg)).trans hg⟩
theorem BlkAt.drew {w : World} {v : Value} {cs : Array Value} (h : BlkAt w v cs) : BlkAt w.drew v cs := h
theorem BlkAt.setCell {w : World} {g o : Nat} {s : Option Nat} {cs : Array Value} (h : BlkAt w (.pointer (some ⟨g, o, s⟩)) cs) {p : Addr} (hp : g ≠ p.block) (u : Value) : BlkAt (w.setCell p u) (.pointer (some ⟨g, o, s⟩)) cs := by
  obtain ⟨g, t, fr, e, hg⟩ := h
  injection e with e
  injection e with e
  injection e with e1 e2 e3
  subst e1 e2 e3
  exact ⟨_, t, fr, rfl, (heapAtSet w p _ u hp).trans hg⟩
theorem BlkAt.below {w w' : World} {B g o : Nat} {s : Option Nat} {cs : Array Value} (h : BlkAt w (.pointer (some ⟨g, o, s⟩)) cs) (hb : Below B w w') (hp : g < B) : BlkAt w' (.pointer (some ⟨g, o, s⟩)) cs := by
  obtain ⟨g, t, fr, e, hg⟩ := h
  injection e with e
  injection e with e
  injection e with e1 e2 e3
  subst e1 e2 e3
  exact ⟨_, t, fr, rfl, (hb.block _ hp).trans hg⟩

theorem BlkAt.ext {w w' : World} {v : Value} {cs : Array Value} (h : BlkAt w v cs) (hb : Below w.heap.size w w') : BlkAt w' v cs := by
  obtain ⟨g, t, fr, rfl, hg⟩ := h
  exact ⟨_, t, fr, rfl, (hb.block _ (heap_lt hg)).trans hg⟩

theorem BlkAt.setSame {w : World} {g : Nat} {cs : Array Value} (h : BlkAt w (.pointer (some ⟨g, 0, none⟩)) cs) (i : Nat) (u : Value) : BlkAt (w.setCell ⟨g, i, none⟩ u) (.pointer (some ⟨g, 0, none⟩)) (cs.setIfInBounds i u) := by
  obtain ⟨g', t, fr, e, hg⟩ := h
  injection e with e
  injection e with e
  injection e with e1
  subst e1
  exact ⟨_, t, fr, rfl, by simp [World.setCell, Array.getElem?_modify, hg]⟩

theorem wpList_load_blk {P : Program} {ops : Array Oper} {rest : List Oper} {o : Oper} {a : Act} {w : World} {Q : Exit → Act → World → Prop} (hgd : Region.wanted o (yielded ops a.tmps) = true) (ty : TypeId) (x : Operand) (ho : o.op = .load ty x)
    (cs : Array Value) (v : Value) (hv : a.eval x = v) (hg : BlkAt w v cs) (d : TypeDesc)
    (hu : P.underlying ty = some d) (hd : (match d with | .struct _ | .array _ _ => true | _ => false) = true) (hi : (P.info? ty).map (·.size) = some cs.size)
    (h : wpList P ops Q rest (a.put o.dst (.agg cs)) w) : wpList P ops Q (o :: rest) a w := by
  obtain ⟨g, t, fr, hx, hg⟩ := hg
  exact wpList_step fun K hK => by rw [if_pos hgd]; exact wp_load_row ty x ho g (hv.trans hx) t cs fr d hg hu hd hi (hK _ _ h)

theorem wpList_load_ho {P : Program} {ops : Array Oper} {rest : List Oper} {o : Oper} {a : Act} {w : World} {Q : Exit → Act → World → Prop} (ty : TypeId) (x : Operand) (ho : o.op = .load ty x) (hgd : Region.wanted o (yielded ops a.tmps) = true)
    (cs : Array Value) (v : Value) (hv : a.eval x = v) (hg : BlkAt w v cs) (d : TypeDesc)
    (hu : P.underlying ty = some d) (hd : (match d with | .struct _ | .array _ _ => true | _ => false) = true) (hi : (P.info? ty).map (·.size) = some cs.size)
    (h : wpList P ops Q rest (a.put o.dst (.agg cs)) w) : wpList P ops Q (o :: rest) a w := wpList_load_blk hgd ty x ho cs v hv hg d hu hd hi h

/-! ### blocks that are known whole -/
def Blk (w : World) (g : Nat) (t : TypeId) (cs : Array Value) : Prop := w.heap[g]? = some (.cells cs t (0, 0))
/-- Only block 'g' has turned. -/
structure Upd (g : Nat) (w w' : World) : Prop where
  os : w'.os = w.os
  tape : w'.tape = w.tape
  output : w'.output = w.output
  size : w'.heap.size = w.heap.size
  block : ∀ k, k ≠ g → w'.heap[k]? = w.heap[k]?
section
variable {w w' : World} {g g' : Nat} {t t' : TypeId} {cs cs' : Array Value}
theorem Blk.lt (h : Blk w g t cs) : g < w.heap.size := heap_lt h
theorem Blk.at (h : Blk w g t cs) : BlkAt w (.pointer (some ⟨g, 0, none⟩)) cs := ⟨g, t, _, rfl, h⟩
theorem Blk.cell (h : Blk w g t cs) (i : Nat) : w.cell? ⟨g, i, none⟩ = cs[i]? := by
  unfold Blk at h
  simp [World.cell?, h]
theorem Blk.frozen (h : Blk w g t cs) (i : Nat) : w.frozen? ⟨g, i, none⟩ = false := by
  unfold Blk at h
  simp [World.frozen?, h]
theorem Blk.new (w : World) (t : TypeId) (cs : Array Value) (n : Nat) (h : w.heap.size = n) : Blk (w.alloc (.cells cs t)) n t cs := by subst h; exact Go.heap_alloc_new w _
theorem Blk.alloc (h : Blk w g t cs) (o : Obj) : Blk (w.alloc o) g t cs := (Below.heap_alloc w o g h.lt).trans h
theorem Blk.drew (h : Blk w g t cs) : Blk w.drew g t cs := h
theorem Blk.ext (h : Blk w g t cs) (hb : Below w.heap.size w w') : Blk w' g t cs := (hb.block g h.lt).trans h
theorem Blk.upd (h : Blk w g t cs) (hne : g ≠ g') (u : Upd g' w w') : Blk w' g t cs := (u.block g hne).trans h
theorem Blk.setCell (h : Blk w g t cs) (i : Nat) (u : Value) : Blk (w.setCell ⟨g, i, none⟩ u) g t (cs.setIfInBounds i u) := by
  unfold Blk at h ⊢
  simp [World.setCell, Array.getElem?_modify, h]
theorem Upd.setCell (w : World) (p : Addr) (u : Value) : Upd p.block w (w.setCell p u) :=
  ⟨rfl, rfl, rfl, by simp [World.setCell], fun k hk => Below.heap_setCell w p u k hk⟩
theorem Upd.trans {w'' : World} (h : Upd g w w') (k : Upd g w' w'') : Upd g w w'' :=
  ⟨k.os.trans h.os, k.tape.trans h.tape, k.output.trans h.output, k.size.trans h.size, fun i hi => (k.block i hi).trans (h.block i hi)⟩
theorem below_upd {B : Nat} {w0 : World} (h : Below B w0 w) (hg : B ≤ g) (u : Upd g w w') : Below B w0 w' :=
  h.trans ⟨u.os, u.tape, u.output, Nat.le_of_eq u.size.symm, fun k hk => u.block k (by omega)⟩
end

theorem wpList_store_blk {P : Program} {ops : Array Oper} {rest : List Oper} {o : Oper} {a : Act} {w : World} {Q : Exit → Act → World → Prop} (hgd : Region.wanted o (yielded ops a.tmps) = true) (ty : TypeId) (x y : Operand) (ho : o.op = .store ty x y)
    (g : Nat) (cs' : Array Value) (hx : a.eval x = .pointer (some ⟨g, 0, none⟩)) (hy : a.eval y = .agg cs') (t : TypeId) (cs : Array Value) (hb : Blk w g t cs) (hi : (P.info? ty).map (·.size) = some cs'.size)
    (hold : cs.size = cs'.size) (h1 : cs'.all (·.oneCell') = true) (h : ∀ w2, Blk w2 g t cs' → Upd g w w2 → wpList P ops Q rest (a.put o.dst undef) w2) : wpList P ops Q (o :: rest) a w :=
  wpList_step fun K hK => by
    rw [if_pos hgd]
    refine wp_store_row ty x y ho g cs' hx hy t cs hb hi hold h1 (hK _ _ (h _ (setRow_heap w g cs cs' t _ hb) ⟨rfl, rfl, rfl, by simp, fun k hk => setRow_other w g k cs' hk⟩))

theorem ret_int {k : IntKind} {a b : Int} (h : a = b) : Ending.returned (.int k a) = .returned (.int k b) := by rw [h]
theorem ret_bool {a b : Bool} (h : a = b) : Ending.returned (.bool a) = .returned (.bool b) := by rw [h]
end Go.Proofs.YtacpjpkhmdcagaaGreat
namespace Go.Proofs.YtacpjpkhmdcagaaGreat
set_option linter.unusedVariables false
open Go.RowKit

/-- 'w'' extends 'w': a word that simp does not open. -/
def Ext (w w' : World) : Prop := Below w.heap.size w w'
theorem Ext.out {w w' : World} (h : Ext w w') : Below w.heap.size w w' := h
theorem wp_region_below_lit {P : Program} {id : Nat} {Q : Exit → Act → World → Prop} {a : Act} {w : World} {l : List Oper} (hm : P.follows .mixedOrders = true) (hB : Region.lexB .any l.toArray = true)
    (h : wpQuiet P l.toArray (fun w' => Ext w w') (fun a' => ∀ w', Below w.heap.size w w' → Q .normal a' w') l a) : (Code.region id l.toArray true).wp P Q a w :=
  wp_region_quiet (C := fun w' => Ext w w') hm hB (Below.refl _ _).drew (by rw [List.toList_toArray]; exact h)

/-! ### a field of a block that is known whole -/
def scalarB (P : Program) (ty : TypeId) : Bool := match P.underlying ty with
  | some (.struct _) | some (.array _ _) | none => false
  | _ => true

theorem run_load_scalar {P : Program} (w : World) (ty : TypeId) (p : Addr) (u : Value) (hs : scalarB P ty = true) (hc : w.cell? p = some u) : (Instr.loadAt ty (.pointer (some p))).run P w = .ok u w := by
  unfold scalarB at hs
  split at hs
  · cases hs
  · cases hs
  · cases hs
  · rename_i d hd1 hd2 hd3
    cases hu : P.underlying ty with
    | none => exact absurd hu hd3
    | some d =>
      have hagg : (isAgg ty).run P w = .ok false w := by
        unfold isAgg
        rw [Sem.run_bind, run_underlying hu w]
        cases d <;> simp_all
      simp only [Instr.loadAt, Instr.sureAddr, Sem.run_bind, Sem.run_pure, Result.andThen_ok, loadVar, hagg]
      simp [hc]

theorem wpList_load_fld {P : Program} {ops : Array Oper} {rest : List Oper} {o : Oper} {a : Act} {w : World} {Q : Exit → Act → World → Prop} (hgd : Region.wanted o (yielded ops a.tmps) = true) (ty : TypeId) (x : Operand) (ho : o.op = .load ty x)
    (g i : Nat) (hx : a.eval x = .pointer (some ⟨g, i, none⟩)) (cs : Array Value) (hb : BlkAt w (.pointer (some ⟨g, 0, none⟩)) cs) (u : Value) (hu : cs[i]? = some u) (hs : scalarB P ty = true)
    (h : wpList P ops Q rest (a.put o.dst u) w) : wpList P ops Q (o :: rest) a w :=
  wpList_step fun K hK => by
    rw [if_pos hgd]
    obtain ⟨g', t, fr, e, hg⟩ := hb
    injection e with e
    injection e with e
    injection e with e1
    subst e1
    have hc : w.cell? ⟨g, i, none⟩ = some u := (cell_of_row w g i cs t fr hg).trans hu
    unfold Oper.wp execOp
    simp only [ho, hx, Sem.run_bind, Sem.run_pure, run_load_scalar w ty ⟨g, i, none⟩ u hs hc, Result.andThen_ok]
    exact hK _ _ h

theorem run_store_scalar {P : Program} (w : World) (ty : TypeId) (g i : Nat) (t : TypeId) (cs : Array Value) (v : Value) (hb : Blk w g t cs) (hi : i < cs.size) (hs : (P.info? ty).map (·.size) = some 1) (hv : v.cells = #[v]) (h1 : v.oneCell' = true) :
    (Instr.storeAt ty (.pointer (some ⟨g, i, none⟩)) v).run P w = .ok () (w.setCell ⟨g, i, none⟩ v) := by
  have e : storeVar ty ⟨g, i, none⟩ v = storeVar ty ⟨g, i, none⟩ (.agg #[v]) := by
    unfold storeVar
    rw [hv]
    rfl
  have ht : w.there g i (#[v] : Array Value).size := fun j hj => by
    have hj0 : j = 0 := by simp at hj; omega
    subst hj0
    rw [Nat.add_zero, hb.cell, hb.frozen]
    simp [hi]
  have := run_storeVar_mid (P := P) w g i ty #[v] ht hs (by simp [h1])
  simp only [Instr.storeAt, Instr.sureAddr, Sem.run_bind, Sem.run_pure, Result.andThen_ok, e, this]
  rfl

theorem wpList_store_fld {P : Program} {ops : Array Oper} {rest : List Oper} {o : Oper} {a : Act} {w : World} {Q : Exit → Act → World → Prop} (hgd : Region.wanted o (yielded ops a.tmps) = true) (ty : TypeId) (x y : Operand) (ho : o.op = .store ty x y)
    (g i : Nat) (hx : a.eval x = .pointer (some ⟨g, i, none⟩)) (v : Value) (hy : a.eval y = v) (t : TypeId) (cs : Array Value) (hb : Blk w g t cs) (hi : i < cs.size) (hs : (P.info? ty).map (·.size) = some 1) (hv : v.cells = #[v]) (h1 : v.oneCell' = true)
    (h : ∀ w2, Blk w2 g t (cs.setIfInBounds i v) → Upd g w w2 → wpList P ops Q rest (a.put o.dst undef) w2) : wpList P ops Q (o :: rest) a w :=
  wpList_step fun K hK => by
    rw [if_pos hgd]
    unfold Oper.wp execOp
    simp only [ho, hx, hy, Sem.run_bind, Sem.run_pure, run_store_scalar w ty g i t cs v hb hi hs hv h1, Result.andThen_ok]
    exact hK _ _ (h _ (hb.setCell i v) (Upd.setCell w ⟨g, i, none⟩ v))

theorem wpList_load_midw {P : Program} {ops : Array Oper} {rest : List Oper} {op : Oper} {a : Act} {w : World} {Q : Exit → Act → World → Prop} (hgd : Region.wanted op (yielded ops a.tmps) = true) (ty : TypeId) (x : Operand) (ho : op.op = .load ty x)
    (b o : Nat) (hx : a.eval x = .pointer (some ⟨b, o, none⟩)) (cs : List Value) (d : TypeDesc) (hc : w.rangeAt b o cs) (hu : P.underlying ty = some d) (hd : d.isRow = true) (hi : (P.info? ty).map (·.size) = some cs.length)
    (h : wpList P ops Q rest (a.put op.dst (.agg cs.toArray)) w) : wpList P ops Q (op :: rest) a w :=
  wpList_step fun K hK => by
    rw [if_pos hgd]
    exact wp_load_mid ty x ho b o hx cs d hc hu hd hi (hK _ _ h)
/-! ### '%' -/
theorem run_rem {P : Program} (o : Oper) (a : Act) (x y : Operand) (t u : TypeId) (ho : o.op = .binOp .rem t x y u) (p g : Int) (hx : a.eval x = .int .i64 p) (hy : a.eval y = .int .i64 g)
    (ht : P.underlying t = some (.int .i64)) (hu : P.underlying u = some (.int .i64)) (hp : 0 ≤ p) (hp2 : p ≤ 9223372036854775807) (hg : 1 ≤ g) (hg2 : g ≤ 9223372036854775807) (w : World) :
    (execOp a.eval o).run P w = .ok (.value (.int .i64 (p % g))) w := by
  have h1 : ¬ g = 0 := by omega
  have h2 : p.tmod g = p % g := Int.tmod_eq_emod_of_nonneg hp
  have h3 := Int.emod_nonneg p (show g ≠ 0 by omega)
  have h4 := Int.emod_lt_of_pos p (show 0 < g by omega)
  have h5 : IntKind.i64.wrap (p % g) = p % g := IntWalk.i64_in _ (by omega)
  generalize hE : a.eval = E at hx hy ⊢
  simp [execOp, ho, hx, hy, go_sem, h1, h2]

/-! ### a drawn region whose last operations come behind all others: the head is walked in the order of the text in every world of the class, the tail from any world of it -/
section
variable {P : Program} {ops : Array Oper} {md : Region.Mode} {C : World → Prop}
/-- 'f' rounds more of the head, whatever order is picked; then 'L'. -/
def headQ (P : Program) (md : Region.Mode) (ops : Array Oper) (C : World → Prop) (n : Nat) (L : Array Bool → Act → Prop) : Nat → Array Bool → Act → Prop
  | 0, done, a => L done a
  | f + 1, done, a => Region.ready md ops done ≠ [] ∧ ∀ i ∈ Region.ready md ops done, i < n ∧ qOp P ops C i (headQ P md ops C n L f (done.setIfInBounds i true)) a

theorem headQ_wp {n g : Nat} {L : Array Bool → Act → Prop} {Q : Exit → Act → World → Prop} (hL : ∀ done a w, C w → L done a → wpAny P md ops Q g done a w) :
    ∀ (f : Nat) (done : Array Bool) (a : Act) (w : World), C w → headQ P md ops C n L f done a → wpAny P md ops Q (f + g) done a w
  | 0, done, a, w, hw, h => by rw [Nat.zero_add]; exact hL _ _ _ hw h
  | f + 1, done, a, w, hw, h => by
    rw [show f + 1 + g = (f + g) + 1 by omega]
    exact ⟨fun h0 => absurd h0 h.1, fun i hi => wpOp_of_qOp hw (fun a' w' hw' h' => headQ_wp hL f _ a' w' hw' h') (h.2 i hi).2⟩

theorem headQ_first {n i : Nat} {oi : Oper} {v : Value} {L : Array Bool → Act → Prop} (hi : ops[i]? = some oi) (hsel : Region.noSelect ops = true)
    (hs : Region.sinkB md ops n = true) (hc : Region.chainB md ops n = true) (hn : n < ops.size) (hin : i < n) (hdone : ∀ done a, L done a → ∀ j ∈ Region.ready md ops done, n ≤ j) :
    ∀ (f : Nat) (done : Array Bool) (a : Act), HeadInv md ops n done →
      (∀ j oj, ops[j]? = some oj → j ≠ i → done.getD j true = false → (∀ e ∈ oj.after, Region.binds md e = true → e.on ≠ i) → oi.apart ops oj = true) →
      i ∈ Region.ready md ops done → YieldsIn P ops C oi v a →
      headQ P md ops C n L f (done.setIfInBounds i true) (a.put oi.dst v) → headQ P md ops C n L (f + 1) done a := by
  have sel := Region.noSelect_spec hsel
  intro f
  induction f with
  | zero =>
    intro done a inv _ hr hy H
    refine ⟨fun h => (by rw [h] at hr; cases hr), fun j hj => ?_⟩
    have hjn : j < n := Nat.lt_of_not_le fun h => tail_waits hs hc hn inv _ i rfl hin (mem_ready.1 hr).1 j h hj
    refine ⟨hjn, ?_⟩
    by_cases hji : j = i
    · subst hji
      exact hy.qOp hi H
    · exact absurd (hdone _ _ H j (ready_mono hj hji)) (by omega)
  | succ f ih =>
    intro done a inv hfree hr hy H
    refine ⟨fun h => (by rw [h] at hr; cases hr), fun j hj => ?_⟩
    have hun := (mem_ready.1 hr).1
    have hjn : j < n := Nat.lt_of_not_le fun h => tail_waits hs hc hn inv _ i rfl hin hun j h hj
    refine ⟨hjn, ?_⟩
    by_cases hji : j = i
    · subst hji
      exact hy.qOp hi H
    · obtain ⟨hju, oj, hoj, hall⟩ := mem_ready.1 hj
      have hno : ∀ e ∈ oj.after, Region.binds md e = true → e.on ≠ i := by
        rintro e he hb rfl
        have h1 := hall e he hb
        rw [getD_both hun] at h1
        cases h1
      have h2 := qOp_put hoj (hfree j oj hoj hji hju hno) (fun cs b => sel i oi cs b hi) (fun cs b => sel j oj cs b hoj) hy (H.2 j (ready_mono hj hji)).2
      refine qOp_mono (fun a' h3 => ih (done.setIfInBounds j true) a' (inv.set hj hjn) (fun k ok hk hki hu hw => hfree k ok hk hki ?_ hw) (ready_mono hr (Ne.symm hji)) h3.1 ?_) h2
      · by_cases hjk : j = k
        · subst hjk
          exact hju
        · rwa [getD_set_ne true hjk] at hu
      · rw [Array.setIfInBounds_comm _ _ hji]
        exact h3.2

theorem headQ_lex {n g : Nat} {Lq : Act → Prop} (hsel : Region.noSelect ops = true) (hs : Region.sinkB md ops n = true) (hc : Region.chainB md ops n = true) (hn : n < ops.size) :
    ∀ (l : List Oper) (k : Nat) (done : Array Bool) (a : Act), (∀ j, j < l.length → l[j]? = ops[k + j]?) → k + l.length = n → HeadInv md ops n done →
    Region.lexHead md ops g l.length k done = true → wpQuiet P ops C Lq l a → headQ P md ops C n (fun done' a' => Region.seqB md ops g n done' = true ∧ Lq a') l.length done a
  | [], k, done, a, _, hk, _, hB, h => by
    obtain rfl : k = n := by simpa using hk
    exact ⟨by simpa [Region.lexHead] using hB, h⟩
  | o :: l, k, done, a, hl, hk, inv, hB, h => by
    simp only [List.length_cons] at hk
    have h0 : ops[k]? = some o := by simpa using (hl 0 (by simp)).symm
    simp only [List.length_cons, Region.lexHead, Bool.and_eq_true] at hB
    have hr : k ∈ Region.ready md ops done := by simpa using hB.1.1
    have hq : qOp P ops C k (wpQuiet P ops C Lq l) a := by unfold qOp; simp only [h0]; exact h
    obtain ⟨v, hy, hK⟩ := yieldsIn_of_qOp h0 hq
    have rest := headQ_lex hsel hs hc hn l (k + 1) (done.setIfInBounds k true) (a.put o.dst v) (fun j hj => by
      have := hl (j + 1) (by simp; omega)
      rw [show k + (j + 1) = k + 1 + j by omega] at this
      simpa using this) (by omega) (inv.set hr (by omega)) hB.2 hK
    exact headQ_first h0 hsel hs hc hn (by omega) (fun done' a' hL => seqB_ready hL.1) l.length done a inv (Region.free_spec h0 hB.1.2) hr hy rest

theorem wp_region_tail {id : Nat} {Q : Exit → Act → World → Prop} {a : Act} {w : World} {l : List Oper} (n : Nat) (hm : P.follows .mixedOrders = true) (hB : Region.lexTailB .any l.toArray n = true) (hC : C { w with drawn := w.drawn + 1 })
    (h : wpQuiet P l.toArray C (fun a' => ∀ w', C w' → wpList P l.toArray Q (l.drop n) a' w') (l.take n) a) : (Code.region id l.toArray true).wp P Q a w := by
  simp only [Region.lexTailB, Bool.and_eq_true, decide_eq_true_eq] at hB
  obtain ⟨⟨⟨⟨hsel, hn⟩, hs⟩, hc⟩, hlex⟩ := hB
  have hn' : n < l.length := by simpa using hn
  have htl : (l.take n).length = n := by simp; omega
  have inv0 : HeadInv .any l.toArray n (Array.replicate l.toArray.size false) :=
    ⟨by simp, fun j oj _ hl => (by rw [getD_replicate_false] at hl; cases hl), fun t _ ht => getD_in (by simpa using ht) (getD_replicate_false _ _)⟩
  have H := headQ_lex (P := P) (C := C) (md := .any) (g := l.toArray.size - n) hsel hs hc hn (l.take n) 0 _ a (fun j hj => by
    rw [htl] at hj
    simp [hj]) (by omega) inv0 (by rw [htl]; exact hlex) h
  have K := headQ_wp (Q := Q) (g := l.toArray.size - n) (fun done a' w' hw' hL => by
    have := wpAny_of_seq (P := P) (md := .any) (Q' := Q) (l.drop n) n done a' w' (fun j => by simp [List.getElem?_drop]) (by simpa using hL.1) (hL.2 w' hw')
    simpa using this) _ _ a _ hC H
  rw [htl, show n + (l.toArray.size - n) = l.toArray.size by omega] at K
  exact wp_region_any hm K

theorem wp_region_below_tail {id : Nat} {Q : Exit → Act → World → Prop} {a : Act} {w : World} {l : List Oper} (n : Nat) (hm : P.follows .mixedOrders = true) (hB : Region.lexTailB .any l.toArray n = true)
    (h : wpQuiet P l.toArray (fun w' => Ext w w') (fun a' => ∀ w', Below w.heap.size w w' → wpList P l.toArray Q (l.drop n) a' w') (l.take n) a) : (Code.region id l.toArray true).wp P Q a w :=
  wp_region_tail (C := fun w' => Ext w w') n hm hB (Below.refl _ _).drew h
end

section
variable {P : Program} {ops : Array Oper} {C : World → Prop} {Q : Act → Prop} {a : Act} {o : Oper} {rest : List Oper}
theorem q_skip (hw : Region.wanted o (yielded ops a.tmps) = false) (h : wpQuiet P ops C Q rest (a.put o.dst undef)) : wpQuiet P ops C Q (o :: rest) a := BigFrame.wpQuiet_skip hw h
theorem q_step (hw : Region.wanted o (yielded ops a.tmps) = true) (v : Value) (hv : ∀ w, C w → o.quietAt P a C w v) (h : wpQuiet P ops C Q rest (a.put o.dst v)) : wpQuiet P ops C Q (o :: rest) a :=
  BigFrame.wpQuiet_want hw fun _ hK => ⟨v, hv, hK _ h⟩
theorem q_step_ex (hw : Region.wanted o (yielded ops a.tmps) = true) (h : ∃ v, (∀ w, C w → o.quietAt P a C w v) ∧ wpQuiet P ops C Q rest (a.put o.dst v)) : wpQuiet P ops C Q (o :: rest) a :=
  let ⟨v, hv, h⟩ := h
  q_step hw v hv h
theorem q_move (hw : Region.wanted o (yielded ops a.tmps) = true) (x : Operand) (ho : o.op = .move x) (v : Value) (hv : a.eval x = v) (h : wpQuiet P ops C Q rest (a.put o.dst v)) : wpQuiet P ops C Q (o :: rest) a :=
  BigFrame.wpQuiet_want hw fun _ hK => BigFrame.quiet_move x ho (by rw [hv]; exact hK _ h)
theorem q_assign (hw : Region.wanted o (yielded ops a.tmps) = true) (x : Operand) (ho : o.op = .assign x) (v : Value) (hv : a.eval x = v) (h : wpQuiet P ops C Q rest (a.put o.dst v)) : wpQuiet P ops C Q (o :: rest) a :=
  BigFrame.wpQuiet_want hw fun _ hK => BigFrame.quiet_assign x ho (by rw [hv]; exact hK _ h)
theorem q_load_blk {w : World} (hgd : Region.wanted o (yielded ops a.tmps) = true) (ty : TypeId) (x : Operand) (ho : o.op = .load ty x)
    (cs : Array Value) (v : Value) (hv : a.eval x = v) (hg : BlkAt w v cs) (d : TypeDesc) (hC : ∀ w', C w' → Below w.heap.size w w')
    (hu : P.underlying ty = some d) (hd : (match d with | .struct _ | .array _ _ => true | _ => false) = true) (hi : (P.info? ty).map (·.size) = some cs.size)
    (h : wpQuiet P ops C Q rest (a.put o.dst (.agg cs))) : wpQuiet P ops C Q (o :: rest) a := by
  obtain ⟨g, t, fr, hx, hg⟩ := hg
  refine q_step hgd _ (fun w' hw' => ?_) h
  have hg' : w'.heap[g]? = some (.cells cs t fr) := ((hC w' hw').block g (heap_lt hg)).trans hg
  unfold Oper.quietAt execOp
  simp only [ho, hv.trans hx, Instr.loadAt, Instr.sureAddr, Sem.run_bind, Sem.run_pure, Result.andThen_ok, run_loadVar_row w' g t ty cs fr d hg' hu hd hi]
  exact ⟨rfl, rfl⟩
theorem q_rem (hgd : Region.wanted o (yielded ops a.tmps) = true) (x y : Operand) (t u : TypeId) (ho : o.op = .binOp .rem t x y u) (p g : Int) (hx : a.eval x = .int .i64 p) (hy : a.eval y = .int .i64 g)
    (ht : P.underlying t = some (.int .i64)) (hu : P.underlying u = some (.int .i64)) (hp : 0 ≤ p ∧ p ≤ 9223372036854775807 ∧ 1 ≤ g ∧ g ≤ 9223372036854775807) (h : wpQuiet P ops C Q rest (a.put o.dst (.int .i64 (p % g)))) : wpQuiet P ops C Q (o :: rest) a :=
  q_step hgd _ (fun w _ => by
    unfold Oper.quietAt
    rw [run_rem o a x y t u ho p g hx hy ht hu hp.1 hp.2.1 hp.2.2.1 hp.2.2.2 w]
    exact ⟨rfl, rfl⟩) h
theorem q_load_fld {w : World} (hgd : Region.wanted o (yielded ops a.tmps) = true) (ty : TypeId) (x : Operand) (ho : o.op = .load ty x) (hC : ∀ w', C w' → Below w.heap.size w w')
    (g i : Nat) (hx : a.eval x = .pointer (some ⟨g, i, none⟩)) (cs : Array Value) (hb : BlkAt w (.pointer (some ⟨g, 0, none⟩)) cs) (u : Value) (hu : cs[i]? = some u) (hs : scalarB P ty = true)
    (h : wpQuiet P ops C Q rest (a.put o.dst u)) : wpQuiet P ops C Q (o :: rest) a := by
  obtain ⟨g', t, fr, e, hg⟩ := hb
  injection e with e
  injection e with e
  injection e with e1
  subst e1
  refine q_step hgd u (fun w' hw' => ?_) h
  have hg' : w'.heap[g]? = some (.cells cs t fr) := ((hC w' hw').block g (heap_lt hg)).trans hg
  have hc : w'.cell? ⟨g, i, none⟩ = some u := (cell_of_row w' g i cs t fr hg').trans hu
  unfold Oper.quietAt execOp
  simp only [ho, hx, Sem.run_bind, Sem.run_pure, run_load_scalar w' ty ⟨g, i, none⟩ u hs hc, Result.andThen_ok]
  exact ⟨rfl, rfl⟩
end
end Go.Proofs.YtacpjpkhmdcagaaGreat
