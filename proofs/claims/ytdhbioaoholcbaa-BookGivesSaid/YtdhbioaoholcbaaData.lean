/- This text proves lemmas about the program's flat structs: how each reads as data. It has no conditions of its own. -/
import Derived.Test.YtdhbioaoholcbaaLib
import Derived.BigQuiet
namespace Go.Proofs.Ytdhbioaoholcbaa
open Go.ChangeShapes Go.WideShapes Go.ChangeAt Go.RowKit Go.Deep
set_option linter.unusedVariables false

def I64 (n : Int) : Prop := -9223372036854775808 ≤ n ∧ n ≤ 9223372036854775807
theorem I64.of_wf {n : Int} (h : (Lit.int .i64 n).wf = true) : I64 n := by
  simp [Lit.wf, IntKind.min, IntKind.max, IntKind.signed, IntKind.bits] at h
  exact h
abbrev K : Kd := some .i64

structure Sym where
  (grid ref static dynamic window move limit pause ext maxExt collar widen self slots levels short : Int)
structure Ord where
  (id owner side price qty flags seq : Int)
structure Msg where
  (kind sym seq tick id wth price qty code : Int)
structure Row where
  (tick phase : Int)
structure Edt where
  (op a b : Int)

theorem fitInt {vs : List Value} {ks : List Kd} (h : fits (K :: ks) vs) : ∃ n vs', vs = .int .i64 n :: vs' ∧ I64 n ∧ fits ks vs' := by
  obtain ⟨v, vs', rfl, ⟨n, rfl, hw⟩, h⟩ := h
  exact ⟨n, vs', rfl, I64.of_wf hw, h⟩
theorem fitBool {vs : List Value} {ks : List Kd} (h : fits ((none : Kd) :: ks) vs) : ∃ n vs', vs = .bool n :: vs' ∧ fits ks vs' := by
  obtain ⟨v, vs', rfl, ⟨n, rfl⟩, h⟩ := h
  exact ⟨n, vs', rfl, h⟩
theorem fitNil {vs : List Value} (h : fits [] vs) : vs = [] := h

def Sym.cells (s : Sym) : List Value := [.int .i64 s.grid, .int .i64 s.ref, .int .i64 s.static, .int .i64 s.dynamic, .int .i64 s.window, .int .i64 s.move, .int .i64 s.limit, .int .i64 s.pause, .int .i64 s.ext, .int .i64 s.maxExt, .int .i64 s.collar, .int .i64 s.widen, .int .i64 s.self, .int .i64 s.slots, .int .i64 s.levels, .int .i64 s.short]
def Ord.cells (s : Ord) : List Value := [.int .i64 s.id, .int .i64 s.owner, .int .i64 s.side, .int .i64 s.price, .int .i64 s.qty, .int .i64 s.flags, .int .i64 s.seq]
def Msg.cells (s : Msg) : List Value := [.int .i64 s.kind, .int .i64 s.sym, .int .i64 s.seq, .int .i64 s.tick, .int .i64 s.id, .int .i64 s.wth, .int .i64 s.price, .int .i64 s.qty, .int .i64 s.code]
def Row.cells (s : Row) : List Value := [.int .i64 s.tick, .int .i64 s.phase]
def Edt.cells (s : Edt) : List Value := [.int .i64 s.op, .int .i64 s.a, .int .i64 s.b]

def Sym.arr (s : Sym) : Array Value := s.cells.toArray
@[go_sem] theorem Sym.arr_size (s : Sym) : s.arr.size = 16 := rfl
@[go_sem] theorem Sym.arr_0 (s : Sym) : s.arr[0]? = some (.int .i64 s.grid) := rfl
@[go_sem] theorem Sym.arr_1 (s : Sym) : s.arr[1]? = some (.int .i64 s.ref) := rfl
@[go_sem] theorem Sym.arr_2 (s : Sym) : s.arr[2]? = some (.int .i64 s.static) := rfl
@[go_sem] theorem Sym.arr_3 (s : Sym) : s.arr[3]? = some (.int .i64 s.dynamic) := rfl
@[go_sem] theorem Sym.arr_4 (s : Sym) : s.arr[4]? = some (.int .i64 s.window) := rfl
@[go_sem] theorem Sym.arr_5 (s : Sym) : s.arr[5]? = some (.int .i64 s.move) := rfl
@[go_sem] theorem Sym.arr_6 (s : Sym) : s.arr[6]? = some (.int .i64 s.limit) := rfl
@[go_sem] theorem Sym.arr_7 (s : Sym) : s.arr[7]? = some (.int .i64 s.pause) := rfl
@[go_sem] theorem Sym.arr_8 (s : Sym) : s.arr[8]? = some (.int .i64 s.ext) := rfl
@[go_sem] theorem Sym.arr_9 (s : Sym) : s.arr[9]? = some (.int .i64 s.maxExt) := rfl
@[go_sem] theorem Sym.arr_10 (s : Sym) : s.arr[10]? = some (.int .i64 s.collar) := rfl
@[go_sem] theorem Sym.arr_11 (s : Sym) : s.arr[11]? = some (.int .i64 s.widen) := rfl
@[go_sem] theorem Sym.arr_12 (s : Sym) : s.arr[12]? = some (.int .i64 s.self) := rfl
@[go_sem] theorem Sym.arr_13 (s : Sym) : s.arr[13]? = some (.int .i64 s.slots) := rfl
@[go_sem] theorem Sym.arr_14 (s : Sym) : s.arr[14]? = some (.int .i64 s.levels) := rfl
@[go_sem] theorem Sym.arr_15 (s : Sym) : s.arr[15]? = some (.int .i64 s.short) := rfl
theorem Sym.cells_arr (s : Sym) : s.cells.toArray = s.arr := rfl

def Ord.arr (s : Ord) : Array Value := s.cells.toArray
@[go_sem] theorem Ord.arr_size (s : Ord) : s.arr.size = 7 := rfl
@[go_sem] theorem Ord.arr_0 (s : Ord) : s.arr[0]? = some (.int .i64 s.id) := rfl
@[go_sem] theorem Ord.arr_1 (s : Ord) : s.arr[1]? = some (.int .i64 s.owner) := rfl
@[go_sem] theorem Ord.arr_2 (s : Ord) : s.arr[2]? = some (.int .i64 s.side) := rfl
@[go_sem] theorem Ord.arr_3 (s : Ord) : s.arr[3]? = some (.int .i64 s.price) := rfl
@[go_sem] theorem Ord.arr_4 (s : Ord) : s.arr[4]? = some (.int .i64 s.qty) := rfl
@[go_sem] theorem Ord.arr_5 (s : Ord) : s.arr[5]? = some (.int .i64 s.flags) := rfl
@[go_sem] theorem Ord.arr_6 (s : Ord) : s.arr[6]? = some (.int .i64 s.seq) := rfl
theorem Ord.cells_arr (s : Ord) : s.cells.toArray = s.arr := rfl

def Msg.arr (s : Msg) : Array Value := s.cells.toArray
@[go_sem] theorem Msg.arr_size (s : Msg) : s.arr.size = 9 := rfl
@[go_sem] theorem Msg.arr_0 (s : Msg) : s.arr[0]? = some (.int .i64 s.kind) := rfl
@[go_sem] theorem Msg.arr_1 (s : Msg) : s.arr[1]? = some (.int .i64 s.sym) := rfl
@[go_sem] theorem Msg.arr_2 (s : Msg) : s.arr[2]? = some (.int .i64 s.seq) := rfl
@[go_sem] theorem Msg.arr_3 (s : Msg) : s.arr[3]? = some (.int .i64 s.tick) := rfl
@[go_sem] theorem Msg.arr_4 (s : Msg) : s.arr[4]? = some (.int .i64 s.id) := rfl
@[go_sem] theorem Msg.arr_5 (s : Msg) : s.arr[5]? = some (.int .i64 s.wth) := rfl
@[go_sem] theorem Msg.arr_6 (s : Msg) : s.arr[6]? = some (.int .i64 s.price) := rfl
@[go_sem] theorem Msg.arr_7 (s : Msg) : s.arr[7]? = some (.int .i64 s.qty) := rfl
@[go_sem] theorem Msg.arr_8 (s : Msg) : s.arr[8]? = some (.int .i64 s.code) := rfl
theorem Msg.cells_arr (s : Msg) : s.cells.toArray = s.arr := rfl

def Row.arr (s : Row) : Array Value := s.cells.toArray
@[go_sem] theorem Row.arr_size (s : Row) : s.arr.size = 2 := rfl
@[go_sem] theorem Row.arr_0 (s : Row) : s.arr[0]? = some (.int .i64 s.tick) := rfl
@[go_sem] theorem Row.arr_1 (s : Row) : s.arr[1]? = some (.int .i64 s.phase) := rfl
theorem Row.cells_arr (s : Row) : s.cells.toArray = s.arr := rfl

def Edt.arr (s : Edt) : Array Value := s.cells.toArray
@[go_sem] theorem Edt.arr_size (s : Edt) : s.arr.size = 3 := rfl
@[go_sem] theorem Edt.arr_0 (s : Edt) : s.arr[0]? = some (.int .i64 s.op) := rfl
@[go_sem] theorem Edt.arr_1 (s : Edt) : s.arr[1]? = some (.int .i64 s.a) := rfl
@[go_sem] theorem Edt.arr_2 (s : Edt) : s.arr[2]? = some (.int .i64 s.b) := rfl
theorem Edt.cells_arr (s : Edt) : s.cells.toArray = s.arr := rfl

theorem fitSym {vs : List Value} (h : fits (List.replicate 16 K) vs) : ∃ s : Sym, vs = s.cells ∧ I64 s.limit ∧ I64 s.grid ∧ I64 s.short := by
  obtain ⟨a0, _, rfl, b0, h⟩ := fitInt h
  obtain ⟨a1, _, rfl, b1, h⟩ := fitInt h
  obtain ⟨a2, _, rfl, b2, h⟩ := fitInt h
  obtain ⟨a3, _, rfl, b3, h⟩ := fitInt h
  obtain ⟨a4, _, rfl, b4, h⟩ := fitInt h
  obtain ⟨a5, _, rfl, b5, h⟩ := fitInt h
  obtain ⟨a6, _, rfl, b6, h⟩ := fitInt h
  obtain ⟨a7, _, rfl, b7, h⟩ := fitInt h
  obtain ⟨a8, _, rfl, b8, h⟩ := fitInt h
  obtain ⟨a9, _, rfl, b9, h⟩ := fitInt h
  obtain ⟨a10, _, rfl, b10, h⟩ := fitInt h
  obtain ⟨a11, _, rfl, b11, h⟩ := fitInt h
  obtain ⟨a12, _, rfl, b12, h⟩ := fitInt h
  obtain ⟨a13, _, rfl, b13, h⟩ := fitInt h
  obtain ⟨a14, _, rfl, b14, h⟩ := fitInt h
  obtain ⟨a15, _, rfl, b15, h⟩ := fitInt h
  obtain rfl := fitNil h
  exact ⟨⟨a0, a1, a2, a3, a4, a5, a6, a7, a8, a9, a10, a11, a12, a13, a14, a15⟩, rfl, b6, b0, b15⟩
theorem fitOrd {vs : List Value} (h : fits (List.replicate 7 K) vs) : ∃ s : Ord, vs = s.cells ∧ I64 s.price := by
  obtain ⟨a0, _, rfl, b0, h⟩ := fitInt h
  obtain ⟨a1, _, rfl, b1, h⟩ := fitInt h
  obtain ⟨a2, _, rfl, b2, h⟩ := fitInt h
  obtain ⟨a3, _, rfl, b3, h⟩ := fitInt h
  obtain ⟨a4, _, rfl, b4, h⟩ := fitInt h
  obtain ⟨a5, _, rfl, b5, h⟩ := fitInt h
  obtain ⟨a6, _, rfl, b6, h⟩ := fitInt h
  obtain rfl := fitNil h
  exact ⟨⟨a0, a1, a2, a3, a4, a5, a6⟩, rfl, b3⟩
theorem fitMsg {vs : List Value} (h : fits (List.replicate 9 K) vs) : ∃ s : Msg, vs = s.cells := by
  obtain ⟨a0, _, rfl, b0, h⟩ := fitInt h
  obtain ⟨a1, _, rfl, b1, h⟩ := fitInt h
  obtain ⟨a2, _, rfl, b2, h⟩ := fitInt h
  obtain ⟨a3, _, rfl, b3, h⟩ := fitInt h
  obtain ⟨a4, _, rfl, b4, h⟩ := fitInt h
  obtain ⟨a5, _, rfl, b5, h⟩ := fitInt h
  obtain ⟨a6, _, rfl, b6, h⟩ := fitInt h
  obtain ⟨a7, _, rfl, b7, h⟩ := fitInt h
  obtain ⟨a8, _, rfl, b8, h⟩ := fitInt h
  obtain rfl := fitNil h
  exact ⟨⟨a0, a1, a2, a3, a4, a5, a6, a7, a8⟩, rfl⟩
theorem fitRow {vs : List Value} (h : fits (List.replicate 2 K) vs) : ∃ s : Row, vs = s.cells ∧ I64 s.tick ∧ I64 s.phase := by
  obtain ⟨a0, _, rfl, b0, h⟩ := fitInt h
  obtain ⟨a1, _, rfl, b1, h⟩ := fitInt h
  obtain rfl := fitNil h
  exact ⟨⟨a0, a1⟩, rfl, b0, b1⟩
theorem fitEdt {vs : List Value} (h : fits (List.replicate 3 K) vs) : ∃ s : Edt, vs = s.cells ∧ I64 s.op ∧ I64 s.a ∧ I64 s.b := by
  obtain ⟨a0, _, rfl, b0, h⟩ := fitInt h
  obtain ⟨a1, _, rfl, b1, h⟩ := fitInt h
  obtain ⟨a2, _, rfl, b2, h⟩ := fitInt h
  obtain rfl := fitNil h
  exact ⟨⟨a0, a1, a2⟩, rfl, b0, b1, b2⟩

theorem fitState {vs : List Value} (h : fits [(none : Kd), K] vs) : ∃ b n, vs = [.bool b, .int .i64 n] ∧ I64 n := by
  obtain ⟨b, v1, e1, h1⟩ := fitBool h
  obtain ⟨n, v2, e2, hn, h2⟩ := fitInt h1
  obtain rfl := fitNil h2
  subst e2
  exact ⟨b, n, e1, hn⟩

/-- Rows that each read as data of one kind are the image of a list of such data. -/
theorem rowsOf {α : Type} {c : α → List Value} {Q : α → Prop} {ks : List Kd} (h : ∀ vs, fits ks vs → ∃ x, vs = c x ∧ Q x) : ∀ l : List (List Value), (∀ x ∈ l, fits ks x) → ∃ xs : List α, l = xs.map c ∧ ∀ x ∈ xs, Q x
  | [], _ => ⟨[], rfl, by simp⟩
  | v :: l, hl => by
    obtain ⟨x, rfl, hx⟩ := h v (hl v (List.mem_cons_self ..))
    obtain ⟨xs, rfl, hxs⟩ := rowsOf h l (fun y hy => hl y (List.mem_cons_of_mem _ hy))
    exact ⟨x :: xs, rfl, by simpa using ⟨hx, hxs⟩⟩

def intC (n : Int) : List Value := [.int .i64 n]
def boolC (n : Bool) : List Value := [.bool n]
theorem fitIntC {vs : List Value} (h : fits [K] vs) : ∃ n, vs = intC n ∧ I64 n := by
  obtain ⟨a0, _, rfl, b0, h⟩ := fitInt h
  obtain rfl := fitNil h
  exact ⟨a0, rfl, b0⟩
theorem fitBoolC {vs : List Value} (h : fits [(none : Kd)] vs) : ∃ n, vs = boolC n ∧ True := by
  obtain ⟨a0, v', e, h'⟩ := fitBool h
  obtain rfl := fitNil h'
  exact ⟨a0, e, trivial⟩

/-- A typed slice's cell. -/
theorem Rd.at {α : Type} {c : α → List Value} {w : World} {k : Nat} {A : Option Addr} {xs : List α} (h : Rd w k A (xs.map c)) {i : Nat} (hi : i < xs.length) :
    ∃ b off, A = some ⟨b, off, none⟩ ∧ ∀ j u, (c (xs[i]'hi))[j]? = some u → w.cell? ⟨b, off + (i * k + j), none⟩ = some u := by
  obtain ⟨b, off, rfl, hc⟩ := h (by intro h0; have : xs.length = 0 := by simpa using congrArg List.length h0
                                    omega)
  refine ⟨b, off, rfl, fun j u hu => hc i j u ?_⟩
  simpa [List.getD_eq_getElem?_getD, List.getElem?_eq_getElem hi] using hu

/-! ### a whole block, loaded -/
/-- Where a block lies in a world that is written out. -/
theorem heapAt0 (w : World) (o : Obj) : (w.alloc o).heap[w.heap.size]? = some o := Go.heap_alloc_new w o
theorem heapAtLt (w : World) (o : Obj) (i : Nat) (h : i < w.heap.size) : (w.alloc o).heap[i]? = w.heap[i]? := Below.heap_alloc w o i h
theorem heapAtSet (w : World) (a : Addr) (k : Nat) (v : Value) (h : k ≠ a.block) : (w.setCell a v).heap[k]? = w.heap[k]? := Below.heap_setCell w a v k h

theorem sz_alloc (w : World) (o : Obj) : (w.alloc o).heap.size = w.heap.size + 1 := by show (w.heap.push o).size = _; simp
theorem sz_setCell (w : World) (a : Addr) (u : Value) : (w.setCell a u).heap.size = w.heap.size := by simp [World.setCell]
theorem sz_drew (w : World) : w.drew.heap.size = w.heap.size := rfl
theorem sz_drewN (w : World) (n : Nat) : (w.drewN n).heap.size = w.heap.size := rfl
theorem below_alloc {w w1 : World} (h : Below w.heap.size w w1) (o : Obj) : Below w.heap.size w (w1.alloc o) := h.alloc h.size o
theorem below_ext {w w1 w2 : World} (h : Below w.heap.size w w1) (k : Below w1.heap.size w1 w2) : Below w.heap.size w w2 := h.trans (k.mono h.size)
theorem below_drewN {B : Nat} {w w1 : World} (h : Below B w w1) (n : Nat) : Below B w (w1.drewN n) := ⟨h.os, h.tape, h.output, h.size, h.block⟩
/-- 'v' points to a whole block that holds 'cs'. -/
def BlkAt (w : World) (v : Value) (cs : Array Value) : Prop := ∃ g t fr, v = .pointer (some ⟨g, 0, none⟩) ∧ w.heap[g]? = some (.cells cs t fr)
theorem BlkAt.new (w : World) (cs : Array Value) (t : TypeId) (n : Nat) (h : w.heap.size = n) : BlkAt (w.alloc (.cells cs t)) (.pointer (some ⟨n, 0, none⟩)) cs :=
  ⟨n, t, _, rfl, by rw [← h]; exact Go.heap_alloc_new w _⟩
theorem heap_lt {w : World} {g : Nat} {o : Obj} (h : w.heap[g]? = some o) : g < w.heap.size := (Array.getElem?_eq_some_iff.1 h).1
theorem BlkAt.alloc {w : World} {v : Value} {cs : Array Value} (h : BlkAt w v cs) (o : Obj) : BlkAt (w.alloc o) v cs := by
  obtain ⟨g, t, fr, rfl, hg⟩ := h
  exact ⟨g, t, fr, rfl, (heapAtLt w o g (heap_lt hg)).trans hg⟩
theorem BlkAt.drew {w : World} {v : Value} {cs : Array Value} (h : BlkAt w v cs) : BlkAt w.drew v cs := h
theorem BlkAt.setCell {w : World} {g o : Nat} {s : Option Nat} {cs : Array Value} (h : BlkAt w (.pointer (some ⟨g, o, s⟩)) cs) {p : Addr} (hp : g ≠ p.block) (u : Value) : BlkAt (w.setCell p u) (.pointer (some ⟨g, o, s⟩)) cs := by
  obtain ⟨g, t, fr, e, hg⟩ := h
  injection e with e
  injection e with e
  injection e with e1 e2 e3
  subst e1 e2 e3
  exact ⟨_, t, fr, rfl, (heapAtSet w p _ u hp).trans hg⟩
theorem BlkAt.below {w w' : World} {B g o : Nat} {s : Option Nat} {cs : Array Value} (h : BlkAt w (.pointer (some ⟨g, o, s⟩)) cs) (hb : Below B w w') (hp : g < B) : BlkAt w' (.pointer (some ⟨g, o, s⟩)) cs := by
  obtain ⟨g, t, fr, e, hg⟩ := h
  injection e with e
  injection e with e
  injection e with e1 e2 e3
  subst e1 e2 e3
  exact ⟨_, t, fr, rfl, (hb.block _ hp).trans hg⟩

theorem BlkAt.ext {w w' : World} {v : Value} {cs : Array Value} (h : BlkAt w v cs) (hb : Below w.heap.size w w') : BlkAt w' v cs := by
  obtain ⟨g, t, fr, rfl, hg⟩ := h
  exact ⟨_, t, fr, rfl, (hb.block _ (heap_lt hg)).trans hg⟩

theorem BlkAt.setSame {w : World} {g : Nat} {cs : Array Value} (h : BlkAt w (.pointer (some ⟨g, 0, none⟩)) cs) (i : Nat) (u : Value) : BlkAt (w.setCell ⟨g, i, none⟩ u) (.pointer (some ⟨g, 0, none⟩)) (cs.setIfInBounds i u) := by
  obtain ⟨g', t, fr, e, hg⟩ := h
  injection e with e
  injection e with e
  injection e with e1
  subst e1
  exact ⟨_, t, fr, rfl, by simp [World.setCell, Array.getElem?_modify, hg]⟩

theorem wpList_load_blk {P : Program} {ops : Array Oper} {rest : List Oper} {o : Oper} {a : Act} {w : World} {Q : Exit → Act → World → Prop} (hgd : Region.wanted o (yielded ops a.tmps) = true) (ty : TypeId) (x : Operand) (ho : o.op = .load ty x)
    (cs : Array Value) (v : Value) (hv : a.eval x = v) (hg : BlkAt w v cs) (d : TypeDesc)
    (hu : P.underlying ty = some d) (hd : (match d with | .struct _ | .array _ _ => true | _ => false) = true) (hi : (P.info? ty).map (·.size) = some cs.size)
    (h : wpList P ops Q rest (a.put o.dst (.agg cs)) w) : wpList P ops Q (o :: rest) a w := by
  obtain ⟨g, t, fr, hx, hg⟩ := hg
  exact wpList_step fun K hK => by rw [if_pos hgd]; exact wp_load_row ty x ho g (hv.trans hx) t cs fr d hg hu hd hi (hK _ _ h)

theorem wpList_load_ho {P : Program} {ops : Array Oper} {rest : List Oper} {o : Oper} {a : Act} {w : World} {Q : Exit → Act → World → Prop} (ty : TypeId) (x : Operand) (ho : o.op = .load ty x) (hgd : Region.wanted o (yielded ops a.tmps) = true)
    (cs : Array Value) (v : Value) (hv : a.eval x = v) (hg : BlkAt w v cs) (d : TypeDesc)
    (hu : P.underlying ty = some d) (hd : (match d with | .struct _ | .array _ _ => true | _ => false) = true) (hi : (P.info? ty).map (·.size) = some cs.size)
    (h : wpList P ops Q rest (a.put o.dst (.agg cs)) w) : wpList P ops Q (o :: rest) a w := wpList_load_blk hgd ty x ho cs v hv hg d hu hd hi h

/-! ### blocks that are known whole -/
def Blk (w : World) (g : Nat) (t : TypeId) (cs : Array Value) : Prop := w.heap[g]? = some (.cells cs t (0, 0))
/-- Only block 'g' has turned. -/
structure Upd (g : Nat) (w w' : World) : Prop where
  os : w'.os = w.os
  tape : w'.tape = w.tape
  output : w'.output = w.output
  size : w'.heap.size = w.heap.size
  block : ∀ k, k ≠ g → w'.heap[k]? = w.heap[k]?
section
variable {w w' : World} {g g' : Nat} {t t' : TypeId} {cs cs' : Array Value}
theorem Blk.lt (h : Blk w g t cs) : g < w.heap.size := heap_lt h
theorem Blk.at (h : Blk w g t cs) : BlkAt w (.pointer (some ⟨g, 0, none⟩)) cs := ⟨g, t, _, rfl, h⟩
theorem Blk.cell (h : Blk w g t cs) (i : Nat) : w.cell? ⟨g, i, none⟩ = cs[i]? := by
  unfold Blk at h
  simp [World.cell?, h]
theorem Blk.frozen (h : Blk w g t cs) (i : Nat) : w.frozen? ⟨g, i, none⟩ = false := by
  unfold Blk at h
  simp [World.frozen?, h]
theorem Blk.new (w : World) (t : TypeId) (cs : Array Value) (n : Nat) (h : w.heap.size = n) : Blk (w.alloc (.cells cs t)) n t cs := by subst h; exact Go.heap_alloc_new w _
theorem Blk.alloc (h : Blk w g t cs) (o : Obj) : Blk (w.alloc o) g t cs := (Below.heap_alloc w o g h.lt).trans h
theorem Blk.drew (h : Blk w g t cs) : Blk w.drew g t cs := h
theorem Blk.ext (h : Blk w g t cs) (hb : Below w.heap.size w w') : Blk w' g t cs := (hb.block g h.lt).trans h
theorem Blk.upd (h : Blk w g t cs) (hne : g ≠ g') (u : Upd g' w w') : Blk w' g t cs := (u.block g hne).trans h
theorem Blk.setCell (h : Blk w g t cs) (i : Nat) (u : Value) : Blk (w.setCell ⟨g, i, none⟩ u) g t (cs.setIfInBounds i u) := by
  unfold Blk at h ⊢
  simp [World.setCell, Array.getElem?_modify, h]
theorem Upd.setCell (w : World) (p : Addr) (u : Value) : Upd p.block w (w.setCell p u) :=
  ⟨rfl, rfl, rfl, by simp [World.setCell], fun k hk => Below.heap_setCell w p u k hk⟩
theorem Upd.trans {w'' : World} (h : Upd g w w') (k : Upd g w' w'') : Upd g w w'' :=
  ⟨k.os.trans h.os, k.tape.trans h.tape, k.output.trans h.output, k.size.trans h.size, fun i hi => (k.block i hi).trans (h.block i hi)⟩
theorem below_upd {B : Nat} {w0 : World} (h : Below B w0 w) (hg : B ≤ g) (u : Upd g w w') : Below B w0 w' :=
  h.trans ⟨u.os, u.tape, u.output, Nat.le_of_eq u.size.symm, fun k hk => u.block k (by omega)⟩
end

theorem wpList_store_blk {P : Program} {ops : Array Oper} {rest : List Oper} {o : Oper} {a : Act} {w : World} {Q : Exit → Act → World → Prop} (hgd : Region.wanted o (yielded ops a.tmps) = true) (ty : TypeId) (x y : Operand) (ho : o.op = .store ty x y)
    (g : Nat) (cs' : Array Value) (hx : a.eval x = .pointer (some ⟨g, 0, none⟩)) (hy : a.eval y = .agg cs') (t : TypeId) (cs : Array Value) (hb : Blk w g t cs) (hi : (P.info? ty).map (·.size) = some cs'.size)
    (hold : cs.size = cs'.size) (h1 : cs'.all (·.oneCell') = true) (h : ∀ w2, Blk w2 g t cs' → Upd g w w2 → wpList P ops Q rest (a.put o.dst undef) w2) : wpList P ops Q (o :: rest) a w :=
  wpList_step fun K hK => by
    rw [if_pos hgd]
    refine wp_store_row ty x y ho g cs' hx hy t cs hb hi hold h1 (hK _ _ (h _ (setRow_heap w g cs cs' t _ hb) ⟨rfl, rfl, rfl, by simp, fun k hk => setRow_other w g k cs' hk⟩))

theorem ret_int {k : IntKind} {a b : Int} (h : a = b) : Ending.returned (.int k a) = .returned (.int k b) := by rw [h]
theorem ret_bool {a b : Bool} (h : a = b) : Ending.returned (.bool a) = .returned (.bool b) := by rw [h]
end Go.Proofs.Ytdhbioaoholcbaa
