/- This text proves the contract of damperref14.Make: what a taker would trade with the orders of the document's book. It has no conditions but those that it states. This text proves the contract of damperref14.Apply: what is left of the document's book when a plan is applied that it can take. It has no conditions but those that it states. This text proves the contracts of the document's small functions on matching: Copy, beyond, Edge, Plan, rests. It has no conditions but those that it states. This text proves the contract of damperref15.Check: whether an order that comes may. It has no conditions but those that it states. This text proves the contract of damperref15.Enter: what comes of an order that comes, and the document's book behind it. It has no conditions but those that it states. -/
import Derived.Test.YtbnappiaomiciaaGreatMeL
import Derived.Test.YtbnappiaomiciaaGreatRkP
import Derived.Test.YtbnappiaomiciaaGreatSwB
import Derived.Test.YtbnappiaomiciaaGreatSw
import Derived.Deep.DeepCutAuto
import Derived.Test.YtbnappiaomiciaaGreatMaV
namespace Go.Proofs.YtbnappiaomiciaaGreat
set_option linter.unusedVariables false
open Go.RowKit
namespace Mr
set_option maxHeartbeats 8000000
set_option maxRecDepth 10000
open Bk (bet srt)
open Sw (Fl Tk mk mkP wrs flatF Cont fl_ok flatF_snoc)
open Rk (Rb)
/-- What the document's Make leaves in memory. -/
def RmPost (w : World) (p : List Fl × Int × Int) (e : Ending) (w' : World) : Prop :=
  (∃ v, e = .returned (.agg #[v, .int .i64 p.2.1, .int .i64 p.2.2]) ∧ w'.ownsRow w.heap.size 160 4 v p.1.length (flatF p.1)) ∧ Below w.heap.size w w'
theorem results_rplan {fn : Func} {p : Tmp} (h : fn.results = #[.cell p 93]) (tmps : Array Value) (w : World) (g : Nat) (cs : Array Value) (hp : tmps.getD p undef = .pointer (some ⟨g, 0, none⟩)) (hb : Blk w g 93 cs) (h3 : cs.size = 3) :
    (results fn tmps).run Tryz.prog w = .ok (.agg cs) w :=
  results_cell_row h _ _ _ _ _ _ _ hp hb Tryz.underlying93 rfl (by rw [h3]; kernel_rfl)
theorem owns_rfl {w : World} {B : Nat} {v : Value} {l : List Fl} (h : w.ownsRow B 160 4 v l.length (flatF l)) : ∃ A cap, v = .slice A l.length cap ∧ Rd w 4 A (l.map Fl.cells) ∧ l.length ≤ cap ∧ (A = none → cap = 0) ∧ ∀ a, A = some a → B ≤ a.block ∧ a.block < w.heap.size := by
  rcases h.2 with ⟨rfl, h0⟩ | ⟨g, cap, cur, rfl, hb, hg, hc, _, _, ht⟩
  · rw [h0]
    have : l = [] := List.eq_nil_of_length_eq_zero h0
    subst this
    exact ⟨none, 0, rfl, fun hne => absurd rfl hne, Nat.le_refl _, fun _ => rfl, fun a e => by cases e⟩
  · refine ⟨some ⟨g, 0, none⟩, cap, rfl, rd_own (show Blk w g 160 cur from hg) (n := l.length) (fun r hr => ?_) ht, hc, (fun e => by cases e), fun a e => ?_⟩
    · obtain ⟨x, _, rfl⟩ := List.mem_map.1 hr
      rfl
    · injection e with e
      subst e
      exact ⟨hb, (Array.getElem?_eq_some_iff.1 hg).1⟩
/-- What a round keeps. -/
structure Mh (w W : World) (tb rbk pb B : Nat) (t : Tk) (Al : Option Addr) (l : List Ord) (v : Value) (left stop : Int) : Prop where
  T : Blk W tb 157 t.arr
  R : Blk W rbk 93 #[.slice none 0 0, .int .i64 0, .int .i64 0]
  P : Blk W pb 93 #[v, .int .i64 left, .int .i64 stop]
  rd : Rd W 7 Al (l.map Ord.cells)
  below : Below w.heap.size w W
  far : ∀ a, Al = some a → a.block < B ∧ a.block ≠ pb
  ord : w.heap.size ≤ rbk ∧ w.heap.size ≤ pb ∧ tb < B ∧ rbk < B ∧ pb < B ∧ tb ≠ pb ∧ rbk ≠ pb ∧ w.heap.size ≤ B
  lt : B ≤ W.heap.size
section
variable {w W W' : World} {tb rbk pb B : Nat} {t : Tk} {Al : Option Addr} {l : List Ord} {v v' : Value} {left stop left' stop' : Int}
theorem Mh.keep (h : Mh w W tb rbk pb B t Al l v left stop) (hk : ∀ q, q < B → W'.heap[q]? = W.heap[q]?) (hb : Below w.heap.size w W') (hz : W.heap.size ≤ W'.heap.size) : Mh w W' tb rbk pb B t Al l v left stop :=
  ⟨(hk _ h.ord.2.2.1).trans h.T, (hk _ h.ord.2.2.2.1).trans h.R, (hk _ h.ord.2.2.2.2.1).trans h.P, h.rd.keep (fun a e => hk _ (h.far a e).1), hb, h.far, h.ord, Nat.le_trans h.lt hz⟩
theorem Mh.ext (h : Mh w W tb rbk pb B t Al l v left stop) (hb : Below W.heap.size W W') : Mh w W' tb rbk pb B t Al l v left stop :=
  h.keep (fun q hq => hb.block q (Nat.lt_of_lt_of_le hq h.lt)) (below_ext h.below hb) hb.size
theorem Mh.upd (h : Mh w W tb rbk pb B t Al l v left stop) (u : Upd pb W W') (P : Blk W' pb 93 #[v', .int .i64 left', .int .i64 stop']) : Mh w W' tb rbk pb B t Al l v' left' stop' :=
  ⟨h.T.upd h.ord.2.2.2.2.2.1 u, h.R.upd h.ord.2.2.2.2.2.2.1 u, P, h.rd.keep (fun a e => u.block _ (h.far a e).2), below_upd h.below h.ord.2.1 u, h.far, h.ord, by rw [u.size]; exact h.lt⟩
theorem Mh.app {W1 : World} (h : Mh w W tb rbk pb B t Al l v left stop) (h1 : Below W.heap.size W W1) (h2 : Below B W1 W') : Mh w W' tb rbk pb B t Al l v left stop :=
  h.keep (fun q hq => (h2.block q hq).trans (h1.block q (Nat.lt_of_lt_of_le hq h.lt))) ((below_ext h.below h1).trans (h2.mono h.ord.2.2.2.2.2.2.2)) (Nat.le_trans h1.size h2.size)
end
theorem rmake_off {w : World} {rb N most : Nat} {L : List Ord} {A : Option Addr} {cap : Nat} (q : Rb w rb (N : Int) (most : Int) L A cap) (t : Tk) (h : ¬ ((t.side = 0 ∨ t.side = 1) ∧ 1 ≤ t.qty)) : Calls Tryz.prog 75 #[.pointer (some ⟨rb, 0, none⟩), .agg t.arr] w (RmPost w ([], t.qty, 1)) := by
  have hq := q.hd.lt
  by_cases hs : t.side = 0 ∨ t.side = 1
  · have k1 : t.qty < 1 := by omega
    clear h
    go_enter Tryz.func75, Tryz.ntmps75
    rcases hs with h0 | h0
    all_goals
      have k0 := h0
      clear h0
      go_wp2_with fail
      refine bodyPost_ret (results_rplan rfl _ _ (w.heap.size + 1) #[.slice none 0 0, .int .i64 t.qty, .int .i64 1] (by rfl) ?_ rfl) rfl ⟨⟨_, rfl, World.ownsRow_nil _ _ _ _⟩, by (repeat (first | with_reducible exact Below.refl _ _ | (with_reducible assumption) | (with_reducible refine below_alloc ?_ _) | (with_reducible refine below_ext (w1 := ?_) ?_ ?_; rotate_left 2; (with_reducible assumption)) | (with_reducible refine Below.setCell ?_ ?_ _; rotate_left; ((try simp) <;> omega)) | (with_reducible refine Below.drew ?_) | (with_reducible refine below_drewN ?_ _) | fail))⟩
      exact (Blk.new _ _ _ _ (sz_alloc _ _)).alloc _
  · have k0 : (t.side != 0) = true := by simpa using (by omega : ¬ t.side = 0)
    have k1 : (t.side != 1) = true := by simpa using (by omega : ¬ t.side = 1)
    clear h hs
    go_enter Tryz.func75, Tryz.ntmps75
    go_wp2_with fail
    refine bodyPost_ret (results_rplan rfl _ _ (w.heap.size + 1) #[.slice none 0 0, .int .i64 t.qty, .int .i64 1] (by rfl) ?_ rfl) rfl ⟨⟨_, rfl, World.ownsRow_nil _ _ _ _⟩, by (repeat (first | with_reducible exact Below.refl _ _ | (with_reducible assumption) | (with_reducible refine below_alloc ?_ _) | (with_reducible refine below_ext (w1 := ?_) ?_ ?_; rotate_left 2; (with_reducible assumption)) | (with_reducible refine Below.setCell ?_ ?_ _; rotate_left; ((try simp) <;> omega)) | (with_reducible refine Below.drew ?_) | (with_reducible refine below_drewN ?_ _) | fail))⟩
    exact (Blk.new _ _ _ _ (sz_alloc _ _)).alloc _
/-- The end: the plan lies in the result's cell. -/
theorem rm_fin {w W W' : World} {tb rbk pb B : Nat} {t : Tk} {Al : Option Addr} {l : List Ord} {v : Value} {left stop : Int} {fs : List Fl} (H : Mh w W tb rbk pb B t Al l v left stop) (hown : W.ownsRow B 160 4 v fs.length (flatF fs)) (u : Upd rbk W W') (hmk : mk t l t.qty = (fs, left, stop)) : RmPost w (mk t l t.qty) (.returned (.agg #[v, .int .i64 left, .int .i64 stop])) W' := by
  rw [hmk]
  exact ⟨⟨v, rfl, Sw.owns_upd (Rk.owns_mono hown H.ord.2.2.2.2.2.2.2) H.R (by decide) u⟩, below_upd H.below H.ord.1 u⟩
/-- What a round finds. -/
structure Mi (w W : World) (tb rbk pb B : Nat) (t : Tk) (Al : Option Addr) (l : List Ord) (k : Nat) (v : Value) (fs : List Fl) (left : Int) : Prop where
  h : Mh w W tb rbk pb B t Al l v left 1
  own : W.ownsRow B 160 4 v fs.length (flatF fs)
  cont : Cont t t.qty (l.take k) fs left
  rng : 0 ≤ left ∧ left ≤ t.qty
  few : fs.length ≤ k
theorem take_split {l : List Ord} {k : Nat} (h : k < l.length) : l = l.take k ++ l[k] :: l.drop (k + 1) := by
  rw [List.getElem_cons_drop, List.take_append_drop]
theorem mk_at {t : Tk} {l : List Ord} {k : Nat} (h : k < l.length) {r : List Fl × Int × Int} (hr : ∀ rest, mk t (l.take k ++ l[k] :: rest) t.qty = r) : mk t l t.qty = r := by
  have := hr (l.drop (k + 1))
  rwa [← take_split h] at this
theorem take_snoc {l : List Ord} {k : Nat} (h : k < l.length) : l.take (k + 1) = l.take k ++ [l[k]] := List.take_succ_eq_append_getElem h
/-- A fill more. -/
theorem Mi.next {w W W' : World} {tb rbk pb B : Nat} {t : Tk} {Al : Option Addr} {l : List Ord} {k : Nat} {v v' : Value} {fs : List Fl} {left left' : Int} {f : Fl} (M : Mi w W tb rbk pb B t Al l k v fs left) (hk : k < l.length) (H : Mh w W' tb rbk pb B t Al l v' left' 1)
    (own : W'.ownsRow B 160 4 v' (fs ++ [f]).length (flatF (fs ++ [f]))) (c : Cont t t.qty (l.take k ++ [l[k]]) (fs ++ [f]) left') (hr : 0 ≤ left' ∧ left' ≤ t.qty) : Mi w W' tb rbk pb B t Al l (k + 1) v' (fs ++ [f]) left' :=
  ⟨H, own, by rw [take_snoc hk]; exact c, hr, by have := M.few; simp; omega⟩
theorem rmake_on {w : World} {rb N most : Nat} {L : List Ord} {A : Option Addr} {cap : Nat} (q : Rb w rb (N : Int) (most : Int) L A cap) (t : Tk) (hs : t.side = 0 ∨ t.side = 1) (hq1 : 1 ≤ t.qty) (hq2 : t.qty ≤ 9223372036854775807) (hok : ∀ o ∈ L, 0 ≤ o.qty ∧ o.qty ≤ 9223372036854775807) : Calls Tryz.prog 75 #[.pointer (some ⟨rb, 0, none⟩), .agg t.arr] w (RmPost w (mk t (srt (1 - t.side) L) t.qty)) := by
  have hq := q.hd.lt
  have hqty : ∀ o ∈ srt (1 - t.side) L, 0 ≤ o.qty ∧ o.qty ≤ 9223372036854775807 := fun o ho => hok o (Sw.srt_mem ho)
  have hlen : (srt (1 - t.side) L).length ≤ 1000 := Nat.le_trans (Rk.srt_len _ _) q.len
  have HOF := Lib.hid (fun W (hW : Below w.heap.size w W) => Rk.rof_any (q.ext hW) (1 - t.side))
  have hT2 : Blk (((w.alloc (.cells t.arr 157)).alloc (.cells #[.slice none 0 0, .int .i64 0, .int .i64 0] 93)).alloc (.cells #[.slice none 0 0, .int .i64 t.qty, .int .i64 1] 93)) w.heap.size 157 t.arr := ((Blk.new w _ _ _ rfl).alloc _).alloc _
  have hR2 : Blk (((w.alloc (.cells t.arr 157)).alloc (.cells #[.slice none 0 0, .int .i64 0, .int .i64 0] 93)).alloc (.cells #[.slice none 0 0, .int .i64 t.qty, .int .i64 1] 93)) (w.heap.size + 1) 93 #[.slice none 0 0, .int .i64 0, .int .i64 0] := (Blk.new _ _ _ _ (sz_alloc _ _)).alloc _
  have hP2 : Blk (((w.alloc (.cells t.arr 157)).alloc (.cells #[.slice none 0 0, .int .i64 0, .int .i64 0] 93)).alloc (.cells #[.slice none 0 0, .int .i64 t.qty, .int .i64 1] 93)) (w.heap.size + 1 + 1) 93 #[.slice none 0 0, .int .i64 t.qty, .int .i64 1] := Blk.new _ _ _ _ (by simp only [sz_alloc])
  have hb2 : Below w.heap.size w (((w.alloc (.cells t.arr 157)).alloc (.cells #[.slice none 0 0, .int .i64 0, .int .i64 0] 93)).alloc (.cells #[.slice none 0 0, .int .i64 t.qty, .int .i64 1] 93)) := by (repeat (first | with_reducible exact Below.refl _ _ | (with_reducible assumption) | (with_reducible refine below_alloc ?_ _) | (with_reducible refine below_ext (w1 := ?_) ?_ ?_; rotate_left 2; (with_reducible assumption)) | (with_reducible refine Below.setCell ?_ ?_ _; rotate_left; ((try simp) <;> omega)) | (with_reducible refine Below.drew ?_) | (with_reducible refine below_drewN ?_ _) | fail))
  have hz2 : (((w.alloc (.cells t.arr 157)).alloc (.cells #[.slice none 0 0, .int .i64 0, .int .i64 0] 93)).alloc (.cells #[.slice none 0 0, .int .i64 t.qty, .int .i64 1] 93)).heap.size = w.heap.size + 1 + 1 + 1 := by simp only [sz_alloc]
  obtain ⟨l, hl⟩ : ∃ l, l = srt (1 - t.side) L := ⟨_, rfl⟩
  rw [← hl] at HOF hqty hlen ⊢
  have HQ := Lib.hid hqty
  have HQ2 := Lib.hid hq2
  have k2 : ¬ t.qty < 1 := by omega
  have HQ1 := Lib.hid hq1
  clear hl hok hqty hq1 hq2 q
  go_enter Tryz.func75, Tryz.ntmps75
  go_upto_region 2 with fail
  generalize (((w.alloc (.cells t.arr 157)).alloc (.cells #[.slice none 0 0, .int .i64 0, .int .i64 0] 93)).alloc (.cells #[.slice none 0 0, .int .i64 t.qty, .int .i64 1] 93)) = w2 at *
  have s0 : w2.cell? ⟨w.heap.size, 0, none⟩ = some (.int .i64 t.side) := hT2.cell 0
  have s3 : w2.cell? ⟨w.heap.size, 3, none⟩ = some (.int .i64 t.qty) := hT2.cell 3
  have HZ2 := Lib.hid hz2
  clear hz2
  go_cut [30] (fun v wx => v = .bool false ∧ w2 = wx)
  case first =>
    rcases hs with h0 | h0
    all_goals
      have k0 := h0
      clear h0
      go_wp2_with fail
      go_meet
      exact ⟨rfl, rfl⟩
  case rest =>
    obtain ⟨rfl, rfl⟩ := hcut
    have s9 : IntKind.i64.wrap (1 - t.side) = 1 - t.side := IntWalk.i64_in _ (by omega)
    clear hs k2 s3
    go_wp2_with (first | (go_at_call 99; refine (HOF.out _ hb2).mono ?_; rintro e w3 ⟨⟨vl, rfl, hown⟩, hb3⟩; obtain ⟨Al, capl, rfl, hrd, _, _, hfl⟩ := Rk.owns_o7 hown; have HI := Lib.hid (And.intro hrd (And.intro hfl hb3)); clear hown hrd hfl hb3 HOF) | fail)
    have MI : Mi w w3 w.heap.size (w.heap.size + 1) (w.heap.size + 1 + 1) w3.heap.size t Al l 0 (.slice none 0 0) [] t.qty := by
      have hz2 := HZ2.out
      have hb3 := HI.out.2.2
      have hz3 := hb3.size
      refine ⟨⟨hT2.ext hb3, hR2.ext hb3, hP2.ext hb3, HI.out.1, below_ext hb2 hb3, fun a e => ?_, by omega, Nat.le_refl _⟩, World.ownsRow_nil _ _ _ _, Sw.cont_nil _ _, ⟨by have := HQ1.out; omega, Int.le_refl _⟩, Nat.le_refl _⟩
      have := HI.out.2.1 a e
      omega
    have HMI := Lib.hid MI
    clear MI HI hT2 hR2 hP2 hb2 s0 s9 HZ2
    obtain ⟨B, hB⟩ : ∃ B, B = w3.heap.size := ⟨_, rfl⟩
    rw [← hB] at HMI
    obtain ⟨tb, htb⟩ : ∃ x, x = w.heap.size := ⟨_, rfl⟩
    obtain ⟨rbk, hrbk⟩ : ∃ x, x = w.heap.size + 1 := ⟨_, rfl⟩
    obtain ⟨pb, hpb⟩ : ∃ x, x = w.heap.size + 1 + 1 := ⟨_, rfl⟩
    rw [← hpb, ← hrbk, ← htb] at HMI
    rw [← hpb, ← hrbk, ← htb]
    clear hB htb hrbk hpb
    go_loopw [7] (fun iv wr => ∃ (k : Nat) (v : Value) (fs : List Fl) (left : Int), iv = .int .i64 k ∧ k ≤ l.length ∧ Hid (Mi w wr tb rbk pb B t Al l k v fs left)) (fun iv _ => l.length - (intOf iv).toNat)
    case atStart => exact ⟨0, _, [], _, rfl, Nat.zero_le _, HMI⟩
    case round =>
      obtain ⟨k, v, fs, left, rfl, hk, HM⟩ := hrel
      clear HMI
      by_cases hlt : k < l.length
      · have e1 : (k : Int) < (l.length : Int) := by omega
        have HLT := Lib.hid hlt
        obtain ⟨ab, ao, rfl, hmid⟩ := Bk.rd_rngB HM.out.h.rd HLT.out
        obtain ⟨o, ho⟩ : ∃ o, o = l[k]'HLT.out := ⟨_, rfl⟩
        replace hmid : wr.rangeAt ab (ao + k * 7) o.cells := by rw [ho]; exact hmid
        have HO := Lib.hid ho
        have HOQ := Lib.hid (HQ.out o (by rw [ho]; exact List.getElem_mem HLT.out))
        obtain ⟨A0, cap0, rfl, _, _, _, _⟩ := owns_rfl HM.out.own
        have hfl : fs.length ≤ 1000 := by have := HM.out.few; omega
        have HW := Lib.hid (fun W => Sw.rworse_any t.side o.price t.limit W)
        have C := HM.out.cont
        have HC : Hid (∀ r, (∀ rest, mk t (l.take k ++ o :: rest) t.qty = r) → mk t l t.qty = r) := Lib.hid (fun r hr => mk_at HLT.out (by rw [← HO.out]; exact hr))
        have HCC := Lib.hid C
        clear ho hlt C
        go_upto_region 9 with (first | ((with_reducible show wpList _ _ _ (⟨_, .load 30 _, _, _, _, _⟩ :: _) _ _); refine wpList_load_mid (by rfl) _ _ (by rfl) _ _ (by rfl) _ _ hmid Tryz.underlying30 rfl (by kernel_rfl) ?_; have hO4 := Blk.new wr 30 Are.ord0.arr _ rfl) | (((with_reducible show wpList _ _ _ (⟨_, .store 30 _ _, _, _, _, _⟩ :: _) _ _); refine wpList_store_blk (by rfl) 30 _ _ (by rfl) _ _ (by rfl) (by rfl) _ _ hO4 (by kernel_rfl) (by rfl) ?_ ?_; (next => first | (simp [Value.oneCell']; done) | (simp [Value.oneCell', Edt.cells]; done) | exact Are.ordArr_one _); intro w5 hO5 hU5); have hb5 : Below wr.heap.size wr w5 := below_upd (by (repeat (first | with_reducible exact Below.refl _ _ | (with_reducible assumption) | (with_reducible refine below_alloc ?_ _) | (with_reducible refine below_ext (w1 := ?_) ?_ ?_; rotate_left 2; (with_reducible assumption)) | (with_reducible refine Below.setCell ?_ ?_ _; rotate_left; ((try simp) <;> omega)) | (with_reducible refine Below.drew ?_) | (with_reducible refine below_drewN ?_ _) | fail))) (Nat.le_refl _) hU5; simp only [Act.put]) | fail)
        have H5 := Lib.hid (HM.out.h.ext hb5)
        have own5 := Lib.hid (owns_ext HM.out.own hb5)
        have t1 : w5.cell? ⟨tb, 1, none⟩ = some (.int .i64 t.owner) := H5.out.T.cell 1
        have t6 : w5.cell? ⟨tb, 6, none⟩ = some (.int .i64 t.self) := H5.out.T.cell 6
        have o1 : w5.cell? ⟨wr.heap.size, 1, none⟩ = some (.int .i64 o.owner) := hO5.cell 1
        obtain ⟨ob, hob⟩ : ∃ x, x = wr.heap.size := ⟨_, rfl⟩
        rw [← hob] at hO5 o1
        rw [← hob]
        clear hob hmid hb5 hU5 hO4
        obtain ⟨bo, hbo⟩ : ∃ b, b = decide (t.self ≠ 0 ∧ o.owner = t.owner) := ⟨_, rfl⟩
        have HBO := Lib.hid hbo
        clear hbo
        go_cut [9] (fun v wx => v = .bool bo ∧ w5 = wx)
        case first =>
          by_cases g1 : t.self = 0
          · have g2 : (t.self != 0) = false := by simpa using g1
            have hb0 := Lib.hid (HBO.out.trans (decide_eq_false (fun h => h.1 g1)))
            clear g1
            go_wp2_with fail
            go_meet
            exact ⟨by rw [hb0.out], rfl⟩
          · have g2 : (t.self != 0) = true := by simpa using g1
            by_cases g3 : o.owner = t.owner
            · have g4 : (o.owner == t.owner) = true := by simpa using g3
              have hb0 := Lib.hid (HBO.out.trans (decide_eq_true ⟨g1, g3⟩))
              clear g1 g3
              go_wp2_with fail
              go_meet
              exact ⟨by rw [hb0.out], rfl⟩
            · have g4 : (o.owner == t.owner) = false := by simpa using g3
              have hb0 := Lib.hid (HBO.out.trans (decide_eq_false (fun h => g3 h.2)))
              clear g1 g3
              go_wp2_with fail
              go_meet
              exact ⟨by rw [hb0.out], rfl⟩
        case rest =>
          obtain ⟨rfl, rfl⟩ := hcut
          have t0 : w5.cell? ⟨tb, 0, none⟩ = some (.int .i64 t.side) := H5.out.T.cell 0
          have t2 : w5.cell? ⟨tb, 2, none⟩ = some (.int .i64 t.limit) := H5.out.T.cell 2
          have t4 : w5.cell? ⟨tb, 4, none⟩ = some (.int .i64 t.lo) := H5.out.T.cell 4
          have t5 : w5.cell? ⟨tb, 5, none⟩ = some (.int .i64 t.hi) := H5.out.T.cell 5
          have o0 : w5.cell? ⟨ob, 0, none⟩ = some (.int .i64 o.id) := hO5.cell 0
          have o3 : w5.cell? ⟨ob, 3, none⟩ = some (.int .i64 o.price) := hO5.cell 3
          have o4 : w5.cell? ⟨ob, 4, none⟩ = some (.int .i64 o.qty) := hO5.cell 4
          have hP5 := H5.out.P
          have hR5 := H5.out.R
          have p0 : w5.cell? ⟨pb, 0, none⟩ = some (.slice A0 fs.length cap0) := hP5.cell 0
          have p1 : w5.cell? ⟨pb, 1, none⟩ = some (.int .i64 left) := hP5.cell 1
          have lP : pb < w5.heap.size := hP5.lt
          have lT : tb < w5.heap.size := H5.out.T.lt
          have lO : ob < w5.heap.size := hO5.lt
          have lB : B ≤ w5.heap.size := H5.out.lt
          clear o1 t1
          by_cases h0 : left = 0
          · have HMK := Lib.hid (HC.out _ (HCC.out.done h0))
            have k1 : (left == 0) = true := by simpa using h0
            clear h0
            go_wp2_with (first | (((with_reducible show wpList _ _ _ (⟨_, .store _ _ _, _, _, _, _⟩ :: _) _ _); refine wpList_store_fld (by rfl) _ _ _ (by rfl) _ _ (by rfl) _ (by rfl) _ _ hP5 ?_ ?_ (by rfl) (by rfl) ?_; (next => first | omega | ((try simp) <;> omega)); (next => kernel_rfl); intro w9 hP9 hU9); replace hP9 : Blk w9 pb 93 #[.slice A0 fs.length cap0, .int .i64 left, .int .i64 0] := hP9; have H9 := Lib.hid (H5.out.upd hU9 hP9); have own9 := Lib.hid (Sw.owns_upd own5.out hP5 (by decide) hU9); have hR9 := H9.out.R) | ((with_reducible show wpList _ _ _ (⟨_, .load 93 _, _, _, _, _⟩ :: _) _ _); refine wpList_load_ho 93 _ (by rfl) (by rfl) ?_ (.pointer (some ⟨_, 0, none⟩)) (by rfl) ?_ _ Tryz.underlying93 rfl ?_ ?_; rotate_left; (next => (repeat (first | (with_reducible refine BlkAt.new _ _ _ _ ?_; ((try simp) <;> omega)) | (with_reducible assumption) | (with_reducible refine Blk.at (t := ?_) ?_; rotate_left; with_reducible assumption) | with_reducible refine BlkAt.alloc ?_ _ | with_reducible refine BlkAt.drew ?_ | (with_reducible refine BlkAt.setSame ?_ _ _) | (with_reducible refine BlkAt.setCell ?_ ?_ _; rotate_left; ((try simp) <;> omega)) | (with_reducible refine BlkAt.ext (w := ?_) ?_ ?_; rotate_left 2; (with_reducible assumption)) | fail))); (next => kernel_rfl)) | ((with_reducible show wpList _ _ _ (⟨_, .store 93 _ _, _, _, _, _⟩ :: _) _ _); refine wpList_store_blk (by rfl) 93 _ _ (by rfl) _ _ (by rfl) (by rfl) _ _ hR9 (by kernel_rfl) (by rfl) ?_ ?_; (next => first | (simp [Value.oneCell']; done) | (simp [Value.oneCell', Edt.cells]; done) | exact Are.ordArr_one _); intro wE hRE hUE) | fail)
            exact bodyPost_ret (results_rplan rfl _ _ rbk _ (by rfl) hRE rfl) rfl (rm_fin H9.out own9.out hUE HMK.out)
          have k1 : (left == 0) = false := by simpa using h0
          have H0 := Lib.hid h0
          clear h0
          cases h1 : wrs t.side o.price t.limit with
          | true =>
            have HMK := Lib.hid (HC.out _ (HCC.out.worse H0.out h1))
            rw [h1] at HW
            clear h1
            go_wp2_with (first | (go_at_call 74; refine (HW.out _).mono ?_; rintro e w6 ⟨rfl, rfl⟩) | ((with_reducible show wpList _ _ _ (⟨_, .load 93 _, _, _, _, _⟩ :: _) _ _); refine wpList_load_ho 93 _ (by rfl) (by rfl) ?_ (.pointer (some ⟨_, 0, none⟩)) (by rfl) ?_ _ Tryz.underlying93 rfl ?_ ?_; rotate_left; (next => (repeat (first | (with_reducible refine BlkAt.new _ _ _ _ ?_; ((try simp) <;> omega)) | (with_reducible assumption) | (with_reducible refine Blk.at (t := ?_) ?_; rotate_left; with_reducible assumption) | with_reducible refine BlkAt.alloc ?_ _ | with_reducible refine BlkAt.drew ?_ | (with_reducible refine BlkAt.setSame ?_ _ _) | (with_reducible refine BlkAt.setCell ?_ ?_ _; rotate_left; ((try simp) <;> omega)) | (with_reducible refine BlkAt.ext (w := ?_) ?_ ?_; rotate_left 2; (with_reducible assumption)) | fail))); (next => kernel_rfl)) | ((with_reducible show wpList _ _ _ (⟨_, .store 93 _ _, _, _, _, _⟩ :: _) _ _); refine wpList_store_blk (by rfl) 93 _ _ (by rfl) _ _ (by rfl) (by rfl) _ _ hR5 (by kernel_rfl) (by rfl) ?_ ?_; (next => first | (simp [Value.oneCell']; done) | (simp [Value.oneCell', Edt.cells]; done) | exact Are.ordArr_one _); intro wE hRE hUE) | fail)
            exact bodyPost_ret (results_rplan rfl _ _ rbk _ (by rfl) hRE rfl) rfl (rm_fin H5.out own5.out hUE HMK.out)
          | false =>
            rw [h1] at HW
            have H1 := Lib.hid h1
            clear h1
            by_cases h2 : o.price < t.lo ∨ t.hi < o.price
            · have HMK := Lib.hid (HC.out _ (HCC.out.out H0.out H1.out h2))
              by_cases h3 : o.price < t.lo
              · clear h2
                go_wp2_with (first | (go_at_call 74; refine (HW.out _).mono ?_; rintro e w6 ⟨rfl, rfl⟩) | (((with_reducible show wpList _ _ _ (⟨_, .store _ _ _, _, _, _, _⟩ :: _) _ _); refine wpList_store_fld (by rfl) _ _ _ (by rfl) _ _ (by rfl) _ (by rfl) _ _ hP5 ?_ ?_ (by rfl) (by rfl) ?_; (next => first | omega | ((try simp) <;> omega)); (next => kernel_rfl); intro w9 hP9 hU9); replace hP9 : Blk w9 pb 93 #[.slice A0 fs.length cap0, .int .i64 left, .int .i64 2] := hP9; have H9 := Lib.hid (H5.out.upd hU9 hP9); have own9 := Lib.hid (Sw.owns_upd own5.out hP5 (by decide) hU9); have hR9 := H9.out.R) | ((with_reducible show wpList _ _ _ (⟨_, .load 93 _, _, _, _, _⟩ :: _) _ _); refine wpList_load_ho 93 _ (by rfl) (by rfl) ?_ (.pointer (some ⟨_, 0, none⟩)) (by rfl) ?_ _ Tryz.underlying93 rfl ?_ ?_; rotate_left; (next => (repeat (first | (with_reducible refine BlkAt.new _ _ _ _ ?_; ((try simp) <;> omega)) | (with_reducible assumption) | (with_reducible refine Blk.at (t := ?_) ?_; rotate_left; with_reducible assumption) | with_reducible refine BlkAt.alloc ?_ _ | with_reducible refine BlkAt.drew ?_ | (with_reducible refine BlkAt.setSame ?_ _ _) | (with_reducible refine BlkAt.setCell ?_ ?_ _; rotate_left; ((try simp) <;> omega)) | (with_reducible refine BlkAt.ext (w := ?_) ?_ ?_; rotate_left 2; (with_reducible assumption)) | fail))); (next => kernel_rfl)) | ((with_reducible show wpList _ _ _ (⟨_, .store 93 _ _, _, _, _, _⟩ :: _) _ _); refine wpList_store_blk (by rfl) 93 _ _ (by rfl) _ _ (by rfl) (by rfl) _ _ hR9 (by kernel_rfl) (by rfl) ?_ ?_; (next => first | (simp [Value.oneCell']; done) | (simp [Value.oneCell', Edt.cells]; done) | exact Are.ordArr_one _); intro wE hRE hUE) | fail)
                exact bodyPost_ret (results_rplan rfl _ _ rbk _ (by rfl) hRE rfl) rfl (rm_fin H9.out own9.out hUE HMK.out)
              · have h4 : t.hi < o.price := by omega
                clear h2
                go_wp2_with (first | (go_at_call 74; refine (HW.out _).mono ?_; rintro e w6 ⟨rfl, rfl⟩) | (((with_reducible show wpList _ _ _ (⟨_, .store _ _ _, _, _, _, _⟩ :: _) _ _); refine wpList_store_fld (by rfl) _ _ _ (by rfl) _ _ (by rfl) _ (by rfl) _ _ hP5 ?_ ?_ (by rfl) (by rfl) ?_; (next => first | omega | ((try simp) <;> omega)); (next => kernel_rfl); intro w9 hP9 hU9); replace hP9 : Blk w9 pb 93 #[.slice A0 fs.length cap0, .int .i64 left, .int .i64 2] := hP9; have H9 := Lib.hid (H5.out.upd hU9 hP9); have own9 := Lib.hid (Sw.owns_upd own5.out hP5 (by decide) hU9); have hR9 := H9.out.R) | ((with_reducible show wpList _ _ _ (⟨_, .load 93 _, _, _, _, _⟩ :: _) _ _); refine wpList_load_ho 93 _ (by rfl) (by rfl) ?_ (.pointer (some ⟨_, 0, none⟩)) (by rfl) ?_ _ Tryz.underlying93 rfl ?_ ?_; rotate_left; (next => (repeat (first | (with_reducible refine BlkAt.new _ _ _ _ ?_; ((try simp) <;> omega)) | (with_reducible assumption) | (with_reducible refine Blk.at (t := ?_) ?_; rotate_left; with_reducible assumption) | with_reducible refine BlkAt.alloc ?_ _ | with_reducible refine BlkAt.drew ?_ | (with_reducible refine BlkAt.setSame ?_ _ _) | (with_reducible refine BlkAt.setCell ?_ ?_ _; rotate_left; ((try simp) <;> omega)) | (with_reducible refine BlkAt.ext (w := ?_) ?_ ?_; rotate_left 2; (with_reducible assumption)) | fail))); (next => kernel_rfl)) | ((with_reducible show wpList _ _ _ (⟨_, .store 93 _ _, _, _, _, _⟩ :: _) _ _); refine wpList_store_blk (by rfl) 93 _ _ (by rfl) _ _ (by rfl) (by rfl) _ _ hR9 (by kernel_rfl) (by rfl) ?_ ?_; (next => first | (simp [Value.oneCell']; done) | (simp [Value.oneCell', Edt.cells]; done) | exact Are.ordArr_one _); intro wE hRE hUE) | fail)
                exact bodyPost_ret (results_rplan rfl _ _ rbk _ (by rfl) hRE rfl) rfl (rm_fin H9.out own9.out hUE HMK.out)
            · have H2 := Lib.hid h2
              have h3 : t.lo ≤ o.price := by omega
              have h4 : o.price ≤ t.hi := by omega
              clear h2
              by_cases h5 : t.self ≠ 0 ∧ o.owner = t.owner
              · obtain rfl : bo = true := HBO.out.trans (decide_eq_true h5)
                have H5b : ¬ (t.self = 0 ∨ o.owner ≠ t.owner) := fun h => h.elim (fun e => h5.1 e) (fun e => e h5.2)
                have H5c := Lib.hid H5b
                clear h5 H5b
                by_cases h6 : t.self = 1
                · have HMK := Lib.hid (HC.out _ (HCC.out.takerGoes H0.out H1.out H2.out H5c.out h6))
                  have k2 : (t.self == 1) = true := by simpa using h6
                  clear h6
                  go_wp2_with (first | (go_at_call 74; refine (HW.out _).mono ?_; rintro e w6 ⟨rfl, rfl⟩) | (((with_reducible show wpList _ _ _ (⟨_, .store _ _ _, _, _, _, _⟩ :: _) _ _); refine wpList_store_fld (by rfl) _ _ _ (by rfl) _ _ (by rfl) _ (by rfl) _ _ hP5 ?_ ?_ (by rfl) (by rfl) ?_; (next => first | omega | ((try simp) <;> omega)); (next => kernel_rfl); intro w9 hP9 hU9); replace hP9 : Blk w9 pb 93 #[.slice A0 fs.length cap0, .int .i64 left, .int .i64 3] := hP9; have H9 := Lib.hid (H5.out.upd hU9 hP9); have own9 := Lib.hid (Sw.owns_upd own5.out hP5 (by decide) hU9); have hR9 := H9.out.R) | ((with_reducible show wpList _ _ _ (⟨_, .load 93 _, _, _, _, _⟩ :: _) _ _); refine wpList_load_ho 93 _ (by rfl) (by rfl) ?_ (.pointer (some ⟨_, 0, none⟩)) (by rfl) ?_ _ Tryz.underlying93 rfl ?_ ?_; rotate_left; (next => (repeat (first | (with_reducible refine BlkAt.new _ _ _ _ ?_; ((try simp) <;> omega)) | (with_reducible assumption) | (with_reducible refine Blk.at (t := ?_) ?_; rotate_left; with_reducible assumption) | with_reducible refine BlkAt.alloc ?_ _ | with_reducible refine BlkAt.drew ?_ | (with_reducible refine BlkAt.setSame ?_ _ _) | (with_reducible refine BlkAt.setCell ?_ ?_ _; rotate_left; ((try simp) <;> omega)) | (with_reducible refine BlkAt.ext (w := ?_) ?_ ?_; rotate_left 2; (with_reducible assumption)) | fail))); (next => kernel_rfl)) | ((with_reducible show wpList _ _ _ (⟨_, .store 93 _ _, _, _, _, _⟩ :: _) _ _); refine wpList_store_blk (by rfl) 93 _ _ (by rfl) _ _ (by rfl) (by rfl) _ _ hR9 (by kernel_rfl) (by rfl) ?_ ?_; (next => first | (simp [Value.oneCell']; done) | (simp [Value.oneCell', Edt.cells]; done) | exact Are.ordArr_one _); intro wE hRE hUE) | fail)
                  exact bodyPost_ret (results_rplan rfl _ _ rbk _ (by rfl) hRE rfl) rfl (rm_fin H9.out own9.out hUE HMK.out)
                · have k2 : (t.self == 1) = false := by simpa using h6
                  by_cases h7 : t.self = 3
                  · have HMK := Lib.hid (HC.out _ (HCC.out.bothGo H0.out H1.out H2.out H5c.out h6 h7))
                    have k3 : (t.self == 3) = true := by simpa using h7
                    clear h6 h7
                    obtain ⟨fs2, hfs2⟩ : ∃ x, x = fs ++ [Fl.mk o.id o.price o.qty true] := ⟨_, rfl⟩
                    have HF2 := Lib.hid hfs2
                    clear hfs2
                    have HP6 := Lib.hid (And.intro (show Blk (w5.alloc (.cells #[.int .i64 o.id, .int .i64 o.price, .int .i64 o.qty, .bool true] 160)) w5.heap.size 160 #[.int .i64 o.id, .int .i64 o.price, .int .i64 o.qty, .bool true] from Blk.new _ _ _ _ rfl) (owns_ext own5.out (show Below w5.heap.size w5 (w5.alloc (.cells #[.int .i64 o.id, .int .i64 o.price, .int .i64 o.qty, .bool true] 160)) from below_alloc (Below.refl _ _) _)))
                    rw [← HF2.out] at HMK
                    go_wp2_with (first | (go_at_call 74; refine (HW.out _).mono ?_; rintro e w6 ⟨rfl, rfl⟩) | ((with_reducible show wpList _ _ _ (⟨_, .call ⟨.builtin .append, _, _⟩, _, _, _, _⟩ :: _) _ _); refine wpList_append_rd (by rfl) _ _ _ (by rfl) B 160 (Value.agg #[.int .i64 0, .int .i64 0, .int .i64 0, .bool false]) 4 32 Tryz.underlying46 (by kernel_rfl) ⟨rfl, by decide⟩ (.slice A0 fs.length cap0) fs.length (flatF fs) (by rfl) HP6.out.2 (some ⟨w5.heap.size, 0, none⟩) 1 1 [Fl.cells ⟨o.id, o.price, o.qty, true⟩] (by rfl) ?_ ⟨rfl, ?_⟩ (by simp) ⟨by unfold maxLen; omega, by omega⟩ ?_ ?_; (next => exact rd_own HP6.out.1 (fun r hr => by rw [List.mem_singleton.1 hr]; rfl) (n := 1) (by simp [Fl.cells])); (next => exact fl_ok [⟨o.id, o.price, o.qty, true⟩]); (next => simp only [sz_alloc]; omega); intro v7 w7 hown7 hb7 hz7 hk7; have H7 := Lib.hid (H5.out.app (below_alloc (Below.refl _ _) _) hb7); have own7 : Hid (w7.ownsRow B 160 4 v7 fs2.length (flatF fs2)) := Lib.hid (by rw [HF2.out, flatF_snoc]; simpa using hown7); obtain ⟨A7, cap7, rfl, _, _, _, _⟩ := owns_rfl own7.out; have hP7 := H7.out.P; clear hown7 hb7 hz7 hk7) | (((with_reducible show wpList _ _ _ (⟨_, .store _ _ _, _, _, _, _⟩ :: _) _ _); refine wpList_store_fld (by rfl) _ _ _ (by rfl) _ _ (by rfl) _ (by rfl) _ _ hP7 ?_ ?_ (by rfl) (by rfl) ?_; (next => first | omega | ((try simp) <;> omega)); (next => kernel_rfl); intro w8 hP8 hU8); replace hP8 : Blk w8 pb 93 #[.slice A7 fs2.length cap7, .int .i64 left, .int .i64 1] := hP8; have H8 := Lib.hid (H7.out.upd hU8 hP8); have own8 := Lib.hid (Sw.owns_upd own7.out hP7 (by decide) hU8); have t68 := H8.out.T.cell 6; have p18 := hP8.cell 1; have lP8 := hP8.lt; clear hU8) | (((with_reducible show wpList _ _ _ (⟨_, .store _ _ _, _, _, _, _⟩ :: _) _ _); refine wpList_store_fld (by rfl) _ _ _ (by rfl) _ _ (by rfl) _ (by rfl) _ _ hP8 ?_ ?_ (by rfl) (by rfl) ?_; (next => first | omega | ((try simp) <;> omega)); (next => kernel_rfl); intro w9 hP9 hU9); replace hP9 : Blk w9 pb 93 #[.slice A7 fs2.length cap7, .int .i64 left, .int .i64 3] := hP9; have H9 := Lib.hid (H8.out.upd hU9 hP9); have own9 := Lib.hid (Sw.owns_upd own8.out hP8 (by decide) hU9); have hR9 := H9.out.R) | ((with_reducible show wpList _ _ _ (⟨_, .load 93 _, _, _, _, _⟩ :: _) _ _); refine wpList_load_ho 93 _ (by rfl) (by rfl) ?_ (.pointer (some ⟨_, 0, none⟩)) (by rfl) ?_ _ Tryz.underlying93 rfl ?_ ?_; rotate_left; (next => (repeat (first | (with_reducible refine BlkAt.new _ _ _ _ ?_; ((try simp) <;> omega)) | (with_reducible assumption) | (with_reducible refine Blk.at (t := ?_) ?_; rotate_left; with_reducible assumption) | with_reducible refine BlkAt.alloc ?_ _ | with_reducible refine BlkAt.drew ?_ | (with_reducible refine BlkAt.setSame ?_ _ _) | (with_reducible refine BlkAt.setCell ?_ ?_ _; rotate_left; ((try simp) <;> omega)) | (with_reducible refine BlkAt.ext (w := ?_) ?_ ?_; rotate_left 2; (with_reducible assumption)) | fail))); (next => kernel_rfl)) | ((with_reducible show wpList _ _ _ (⟨_, .store 93 _ _, _, _, _, _⟩ :: _) _ _); refine wpList_store_blk (by rfl) 93 _ _ (by rfl) _ _ (by rfl) (by rfl) _ _ hR9 (by kernel_rfl) (by rfl) ?_ ?_; (next => first | (simp [Value.oneCell']; done) | (simp [Value.oneCell', Edt.cells]; done) | exact Are.ordArr_one _); intro wE hRE hUE) | fail)
                    exact bodyPost_ret (results_rplan rfl _ _ rbk _ (by rfl) hRE rfl) rfl (rm_fin H9.out own9.out hUE HMK.out)
                  · have HC2 := Lib.hid (HCC.out.makerGoes H0.out H1.out H2.out H5c.out h6 h7)
                    have k3 : (t.self == 3) = false := by simpa using h7
                    clear h6 h7
                    obtain ⟨fs2, hfs2⟩ : ∃ x, x = fs ++ [Fl.mk o.id o.price o.qty true] := ⟨_, rfl⟩
                    have HF2 := Lib.hid hfs2
                    clear hfs2
                    have HP6 := Lib.hid (And.intro (show Blk (w5.alloc (.cells #[.int .i64 o.id, .int .i64 o.price, .int .i64 o.qty, .bool true] 160)) w5.heap.size 160 #[.int .i64 o.id, .int .i64 o.price, .int .i64 o.qty, .bool true] from Blk.new _ _ _ _ rfl) (owns_ext own5.out (show Below w5.heap.size w5 (w5.alloc (.cells #[.int .i64 o.id, .int .i64 o.price, .int .i64 o.qty, .bool true] 160)) from below_alloc (Below.refl _ _) _)))
                    go_wp2_with (first | (go_at_call 74; refine (HW.out _).mono ?_; rintro e w6 ⟨rfl, rfl⟩) | ((with_reducible show wpList _ _ _ (⟨_, .call ⟨.builtin .append, _, _⟩, _, _, _, _⟩ :: _) _ _); refine wpList_append_rd (by rfl) _ _ _ (by rfl) B 160 (Value.agg #[.int .i64 0, .int .i64 0, .int .i64 0, .bool false]) 4 32 Tryz.underlying46 (by kernel_rfl) ⟨rfl, by decide⟩ (.slice A0 fs.length cap0) fs.length (flatF fs) (by rfl) HP6.out.2 (some ⟨w5.heap.size, 0, none⟩) 1 1 [Fl.cells ⟨o.id, o.price, o.qty, true⟩] (by rfl) ?_ ⟨rfl, ?_⟩ (by simp) ⟨by unfold maxLen; omega, by omega⟩ ?_ ?_; (next => exact rd_own HP6.out.1 (fun r hr => by rw [List.mem_singleton.1 hr]; rfl) (n := 1) (by simp [Fl.cells])); (next => exact fl_ok [⟨o.id, o.price, o.qty, true⟩]); (next => simp only [sz_alloc]; omega); intro v7 w7 hown7 hb7 hz7 hk7; have H7 := Lib.hid (H5.out.app (below_alloc (Below.refl _ _) _) hb7); have own7 : Hid (w7.ownsRow B 160 4 v7 fs2.length (flatF fs2)) := Lib.hid (by rw [HF2.out, flatF_snoc]; simpa using hown7); obtain ⟨A7, cap7, rfl, _, _, _, _⟩ := owns_rfl own7.out; have hP7 := H7.out.P; clear hown7 hb7 hz7 hk7) | (((with_reducible show wpList _ _ _ (⟨_, .store _ _ _, _, _, _, _⟩ :: _) _ _); refine wpList_store_fld (by rfl) _ _ _ (by rfl) _ _ (by rfl) _ (by rfl) _ _ hP7 ?_ ?_ (by rfl) (by rfl) ?_; (next => first | omega | ((try simp) <;> omega)); (next => kernel_rfl); intro w8 hP8 hU8); replace hP8 : Blk w8 pb 93 #[.slice A7 fs2.length cap7, .int .i64 left, .int .i64 1] := hP8; have H8 := Lib.hid (H7.out.upd hU8 hP8); have own8 := Lib.hid (Sw.owns_upd own7.out hP7 (by decide) hU8); have t68 := H8.out.T.cell 6; have p18 := hP8.cell 1; have lP8 := hP8.lt; clear hU8) | fail)
                    go_roundw
                    case rel => exact ⟨k + 1, _, fs2, left, by go_num, HLT.out, Lib.hid (by rw [HF2.out]; exact HM.out.next HLT.out H8.out (by rw [← HF2.out]; exact own8.out) (by rw [← HO.out]; exact HC2.out) HM.out.rng)⟩
                    case measure => (have := HLT.out; simp [intOf]; omega)
              · obtain rfl : bo = false := HBO.out.trans (decide_eq_false h5)
                have H5b : t.self = 0 ∨ o.owner ≠ t.owner := by
                  by_cases e : t.self = 0
                  · exact .inl e
                  · exact .inr (fun e2 => h5 ⟨e, e2⟩)
                have HC2 := Lib.hid (HCC.out.trade H0.out H1.out H2.out H5b)
                have hr := HM.out.rng
                have hoq := HOQ.out
                have hq2 := HQ2.out
                have s7 : IntKind.i64.wrap (left - min left o.qty) = left - min left o.qty := IntWalk.i64_in _ (by omega)
                clear h5 H5b
                obtain ⟨n, hn⟩ : ∃ n, n = if o.qty < left then o.qty else left := ⟨_, rfl⟩
                have hn2 : n = min left o.qty := by rw [hn]; split <;> omega
                rw [← hn2] at s7 HC2
                have HN := Lib.hid hn
                have hr2 : 0 ≤ left - n ∧ left - n ≤ t.qty := by omega
                have HR2 := Lib.hid hr2
                clear hn hn2 hr hoq hq2 hr2
                obtain ⟨fs2, hfs2⟩ : ∃ x, x = fs ++ [Fl.mk o.id o.price n false] := ⟨_, rfl⟩
                have HF2 := Lib.hid hfs2
                clear hfs2
                have HP6 := Lib.hid (And.intro (show Blk (w5.alloc (.cells #[.int .i64 o.id, .int .i64 o.price, .int .i64 n, .bool false] 160)) w5.heap.size 160 #[.int .i64 o.id, .int .i64 o.price, .int .i64 n, .bool false] from Blk.new _ _ _ _ rfl) (owns_ext own5.out (show Below w5.heap.size w5 (w5.alloc (.cells #[.int .i64 o.id, .int .i64 o.price, .int .i64 n, .bool false] 160)) from below_alloc (Below.refl _ _) _)))
                go_upto_region 11 with (first | (go_at_call 74; refine (HW.out _).mono ?_; rintro e w6 ⟨rfl, rfl⟩) | fail)
                rw [← HN.out]
                go_wp2_with (first | ((with_reducible show wpList _ _ _ (⟨_, .call ⟨.builtin .append, _, _⟩, _, _, _, _⟩ :: _) _ _); refine wpList_append_rd (by rfl) _ _ _ (by rfl) B 160 (Value.agg #[.int .i64 0, .int .i64 0, .int .i64 0, .bool false]) 4 32 Tryz.underlying46 (by kernel_rfl) ⟨rfl, by decide⟩ (.slice A0 fs.length cap0) fs.length (flatF fs) (by rfl) HP6.out.2 (some ⟨w5.heap.size, 0, none⟩) 1 1 [Fl.cells ⟨o.id, o.price, n, false⟩] (by rfl) ?_ ⟨rfl, ?_⟩ (by simp) ⟨by unfold maxLen; omega, by omega⟩ ?_ ?_; (next => exact rd_own HP6.out.1 (fun r hr => by rw [List.mem_singleton.1 hr]; rfl) (n := 1) (by simp [Fl.cells])); (next => exact fl_ok [⟨o.id, o.price, n, false⟩]); (next => simp only [sz_alloc]; omega); intro v7 w7 hown7 hb7 hz7 hk7; have H7 := Lib.hid (H5.out.app (below_alloc (Below.refl _ _) _) hb7); have own7 : Hid (w7.ownsRow B 160 4 v7 fs2.length (flatF fs2)) := Lib.hid (by rw [HF2.out, flatF_snoc]; simpa using hown7); obtain ⟨A7, cap7, rfl, _, _, _, _⟩ := owns_rfl own7.out; have hP7 := H7.out.P; clear hown7 hb7 hz7 hk7) | (((with_reducible show wpList _ _ _ (⟨_, .store _ _ _, _, _, _, _⟩ :: _) _ _); refine wpList_store_fld (by rfl) _ _ _ (by rfl) _ _ (by rfl) _ (by rfl) _ _ hP7 ?_ ?_ (by rfl) (by rfl) ?_; (next => first | omega | ((try simp) <;> omega)); (next => kernel_rfl); intro w8 hP8 hU8); replace hP8 : Blk w8 pb 93 #[.slice A7 fs2.length cap7, .int .i64 left, .int .i64 1] := hP8; have H8 := Lib.hid (H7.out.upd hU8 hP8); have own8 := Lib.hid (Sw.owns_upd own7.out hP7 (by decide) hU8); have t68 := H8.out.T.cell 6; have p18 := hP8.cell 1; have lP8 := hP8.lt; clear hU8) | (((with_reducible show wpList _ _ _ (⟨_, .store _ _ _, _, _, _, _⟩ :: _) _ _); refine wpList_store_fld (by rfl) _ _ _ (by rfl) _ _ (by rfl) _ (by rfl) _ _ hP8 ?_ ?_ (by rfl) (by rfl) ?_; (next => first | omega | ((try simp) <;> omega)); (next => kernel_rfl); intro w9 hP9 hU9); replace hP9 : Blk w9 pb 93 #[.slice A7 fs2.length cap7, .int .i64 (left - n), .int .i64 1] := hP9; have H9 := Lib.hid (H8.out.upd hU9 hP9); have own9 := Lib.hid (Sw.owns_upd own8.out hP8 (by decide) hU9)) | fail)
                go_roundw
                case rel => exact ⟨k + 1, _, fs2, left - n, by go_num, HLT.out, Lib.hid (by rw [HF2.out]; exact HM.out.next HLT.out H9.out (by rw [← HF2.out]; exact own9.out) (by rw [← HO.out]; exact HC2.out) HR2.out)⟩
                case measure => (have := HLT.out; simp [intOf]; omega)
      · obtain rfl : k = l.length := by omega
        obtain ⟨A0, cap0, rfl, _, _, _, _⟩ := owns_rfl HM.out.own
        have hc := HM.out.cont.all
        rw [List.take_length] at hc
        have H5 := Lib.hid HM.out.h
        have own5 := Lib.hid HM.out.own
        have hP5 := H5.out.P
        have hR5 := H5.out.R
        have p1 : wr.cell? ⟨pb, 1, none⟩ = some (.int .i64 left) := hP5.cell 1
        clear hlt
        by_cases h0 : left = 0
        · have HMK := Lib.hid (hc.trans (by rw [if_pos h0]))
          have k1 : (left == 0) = true := by simpa using h0
          clear h0 hc
          go_wp2_with (first | (((with_reducible show wpList _ _ _ (⟨_, .store _ _ _, _, _, _, _⟩ :: _) _ _); refine wpList_store_fld (by rfl) _ _ _ (by rfl) _ _ (by rfl) _ (by rfl) _ _ hP5 ?_ ?_ (by rfl) (by rfl) ?_; (next => first | omega | ((try simp) <;> omega)); (next => kernel_rfl); intro w9 hP9 hU9); replace hP9 : Blk w9 pb 93 #[.slice A0 fs.length cap0, .int .i64 left, .int .i64 0] := hP9; have H9 := Lib.hid (H5.out.upd hU9 hP9); have own9 := Lib.hid (Sw.owns_upd own5.out hP5 (by decide) hU9); have hR9 := H9.out.R) | ((with_reducible show wpList _ _ _ (⟨_, .load 93 _, _, _, _, _⟩ :: _) _ _); refine wpList_load_ho 93 _ (by rfl) (by rfl) ?_ (.pointer (some ⟨_, 0, none⟩)) (by rfl) ?_ _ Tryz.underlying93 rfl ?_ ?_; rotate_left; (next => (repeat (first | (with_reducible refine BlkAt.new _ _ _ _ ?_; ((try simp) <;> omega)) | (with_reducible assumption) | (with_reducible refine Blk.at (t := ?_) ?_; rotate_left; with_reducible assumption) | with_reducible refine BlkAt.alloc ?_ _ | with_reducible refine BlkAt.drew ?_ | (with_reducible refine BlkAt.setSame ?_ _ _) | (with_reducible refine BlkAt.setCell ?_ ?_ _; rotate_left; ((try simp) <;> omega)) | (with_reducible refine BlkAt.ext (w := ?_) ?_ ?_; rotate_left 2; (with_reducible assumption)) | fail))); (next => kernel_rfl)) | ((with_reducible show wpList _ _ _ (⟨_, .store 93 _ _, _, _, _, _⟩ :: _) _ _); refine wpList_store_blk (by rfl) 93 _ _ (by rfl) _ _ (by rfl) (by rfl) _ _ hR9 (by kernel_rfl) (by rfl) ?_ ?_; (next => first | (simp [Value.oneCell']; done) | (simp [Value.oneCell', Edt.cells]; done) | exact Are.ordArr_one _); intro wE hRE hUE) | fail)
          exact bodyPost_ret (results_rplan rfl _ _ rbk _ (by rfl) hRE rfl) rfl (rm_fin H9.out own9.out hUE HMK.out)
        · have HMK := Lib.hid (hc.trans (by rw [if_neg h0]))
          have k1 : (left == 0) = false := by simpa using h0
          clear h0 hc
          go_wp2_with (first | ((with_reducible show wpList _ _ _ (⟨_, .load 93 _, _, _, _, _⟩ :: _) _ _); refine wpList_load_ho 93 _ (by rfl) (by rfl) ?_ (.pointer (some ⟨_, 0, none⟩)) (by rfl) ?_ _ Tryz.underlying93 rfl ?_ ?_; rotate_left; (next => (repeat (first | (with_reducible refine BlkAt.new _ _ _ _ ?_; ((try simp) <;> omega)) | (with_reducible assumption) | (with_reducible refine Blk.at (t := ?_) ?_; rotate_left; with_reducible assumption) | with_reducible refine BlkAt.alloc ?_ _ | with_reducible refine BlkAt.drew ?_ | (with_reducible refine BlkAt.setSame ?_ _ _) | (with_reducible refine BlkAt.setCell ?_ ?_ _; rotate_left; ((try simp) <;> omega)) | (with_reducible refine BlkAt.ext (w := ?_) ?_ ?_; rotate_left 2; (with_reducible assumption)) | fail))); (next => kernel_rfl)) | ((with_reducible show wpList _ _ _ (⟨_, .store 93 _ _, _, _, _, _⟩ :: _) _ _); refine wpList_store_blk (by rfl) 93 _ _ (by rfl) _ _ (by rfl) (by rfl) _ _ hR5 (by kernel_rfl) (by rfl) ?_ ?_; (next => first | (simp [Value.oneCell']; done) | (simp [Value.oneCell', Edt.cells]; done) | exact Are.ordArr_one _); intro wE hRE hUE) | fail)
          exact bodyPost_ret (results_rplan rfl _ _ rbk _ (by rfl) hRE rfl) rfl (rm_fin H5.out own5.out hUE HMK.out)
end Mr
end Go.Proofs.YtbnappiaomiciaaGreat
namespace Go.Proofs.YtbnappiaomiciaaGreat
set_option linter.unusedVariables false
open Go.RowKit
namespace Mr
set_option maxHeartbeats 8000000
set_option maxRecDepth 10000
open Bk (fndI rmI redF redO rdI less)
open Sw (Fl appF)
open Rk (Rb)
theorem flArr_one (f : Fl) : f.arr.all (·.oneCell') = true := Sw.flArr_one f
theorem butL_le {l : List Nat} {B C : Nat} {w w' : World} (h : ButL l B w w') (hC : C ≤ B) : ButL l C w w' := ⟨h.os, h.tape, h.output, h.size, fun i hi hn => h.block i (Nat.lt_of_lt_of_le hi hC) hn⟩
theorem red_le {id z : Int} {os : List Ord} (h : ∀ o ∈ os, o.qty ≤ 4294967296) : ∀ o ∈ redO id z os, o.qty ≤ 4294967296 := by
  intro x hx
  unfold redO at hx
  split at hx
  · exact h x hx
  · split at hx
    · exact h x hx
    · split at hx
      · exact h x (Ma.rm_sub hx).1
      · rename_i h1 h2
        unfold rdI at hx
        obtain ⟨y, hy, rfl⟩ := List.mem_map.1 hx
        have := h y hy
        split
        · show y.qty - z ≤ _
          omega
        · exact this
theorem red_nod {id z : Int} {os : List Ord} (h : (os.map (·.id)).Nodup) : ((redO id z os).map (·.id)).Nodup := by
  unfold redO
  split
  · exact h
  · split
    · exact h
    · split
      · exact Ma.rm_nod h
      · rw [Ma.rd_ids]; exact h
/-- What holds behind i fills. -/
structure Aw (w1 wr : World) (rb N most i : Nat) (A A1 : Option Addr) (cap1 : Nat) (os : List Ord) (fs : List Fl) (r : List Ord) : Prop where
  bk : Rb wr rb (N : Int) (most : Int) os A1 cap1
  far : ∀ a, A1 = some a → w1.heap.size ≤ a.block ∨ A = some a
  but : ButL [rb] w1.heap.size w1 wr
  nod : (os.map (·.id)).Nodup
  ok : ∀ o ∈ os, o.qty ≤ 4294967296
  ap : appF (fs.drop i) os = (0, r)
theorem Aw.step {w1 wr W W' : World} {rb N most i : Nat} {A A1 A2 : Option Addr} {cap1 cap2 : Nat} {os os' : List Ord} {fs : List Fl} {r : List Ord} (h : Aw w1 wr rb N most i A A1 cap1 os fs r) (hb : Below wr.heap.size wr W) (q : Rb W' rb (N : Int) (most : Int) os' A2 cap2) (hf : ∀ a, A2 = some a → W.heap.size ≤ a.block ∨ A1 = some a) (hu : ButL [rb] W.heap.size W W')
    (hn : (os'.map (·.id)).Nodup) (hok : ∀ o ∈ os', o.qty ≤ 4294967296) (ha : appF (fs.drop (i + 1)) os' = (0, r)) : Aw w1 W' rb N most (i + 1) A A2 cap2 os' fs r :=
  ⟨q, fun a e => by
    rcases hf a e with h1 | h1
    · have := h.but.size; have := hb.size; exact .inl (by omega)
    · exact h.far a h1, (h.but.ext h.but.size hb).trans (butL_le hu (Nat.le_trans h.but.size hb.size)), hn, hok, ha⟩
theorem rapply_ok {w : World} {rb N most : Nat} {L : List Ord} {A : Option Addr} {cap : Nat} (q : Rb w rb (N : Int) (most : Int) L A cap) (hn : (L.map (·.id)).Nodup) (hok : ∀ o ∈ L, o.qty ≤ 4294967296) {fs : List Fl} {Af : Option Addr} {cp : Nat} (hrd : Rd w 4 Af (fs.map Fl.cells)) (hAf : ∀ a, Af = some a → a.block ≠ rb ∧ a.block < w.heap.size) (hl : fs.length ≤ 1000) (h0 : (appF fs L).1 = 0) (left stop : Int) :
    Calls Tryz.prog 45 #[.pointer (some ⟨rb, 0, none⟩), .agg #[.slice Af fs.length cp, .int .i64 left, .int .i64 stop]] w fun e w' => e = .returned (.int .i64 0) ∧ (∃ A' cap', Rb w' rb (N : Int) (most : Int) (appF fs L).2 A' cap' ∧ ∀ a, A' = some a → w.heap.size ≤ a.block ∨ A = some a) ∧ ButL [rb] w.heap.size w w' := by
  obtain ⟨r, hr⟩ : ∃ r, appF fs L = (0, r) := ⟨(appF fs L).2, by rw [← h0]⟩
  rw [hr]
  have hP1 : Blk (w.alloc (.cells #[.slice Af fs.length cp, .int .i64 left, .int .i64 stop] 93)) w.heap.size 93 #[.slice Af fs.length cp, .int .i64 left, .int .i64 stop] := Blk.new _ _ _ _ rfl
  have hb1 : Below w.heap.size w (w.alloc (.cells #[.slice Af fs.length cp, .int .i64 left, .int .i64 stop] 93)) := by (repeat (first | with_reducible exact Below.refl _ _ | (with_reducible assumption) | (with_reducible refine below_alloc ?_ _) | (with_reducible refine below_ext (w1 := ?_) ?_ ?_; rotate_left 2; (with_reducible assumption)) | (with_reducible refine Below.setCell ?_ ?_ _; rotate_left; ((try simp) <;> omega)) | (with_reducible refine Below.drew ?_) | (with_reducible refine below_drewN ?_ _) | fail))
  have hz1 : (w.alloc (.cells #[.slice Af fs.length cp, .int .i64 left, .int .i64 stop] 93)).heap.size = w.heap.size + 1 := sz_alloc _ _
  have hrb := q.hd.lt
  have q1 := q.ext hb1
  have hrd1 := hrd.below hb1
  go_enter Tryz.func45, Tryz.ntmps45
  go_upto_region 1 with fail
  generalize (w.alloc (.cells #[.slice Af fs.length cp, .int .i64 left, .int .i64 stop] 93)) = w1 at *
  have p1 : w1.cell? ⟨w.heap.size, 0, none⟩ = some (.slice Af fs.length cp) := hP1.cell 0
  have A0 : Hid (Aw w1 w1 rb N most 0 A A cap L fs r) := Lib.hid ⟨q1, fun a e => .inr e, ButL.refl _ _ _, hn, hok, hr⟩
  have HFIN : Hid (∀ (W : World) (A2 : Option Addr) (cap2 : Nat) (os : List Ord), Aw w1 W rb N most fs.length A A2 cap2 os fs r → (∃ A' cap', Rb W rb (N : Int) (most : Int) r A' cap' ∧ ∀ a, A' = some a → w.heap.size ≤ a.block ∨ A = some a) ∧ ButL [rb] w.heap.size w W) := Lib.hid (fun W A2 cap2 os h => by
    have ha := h.ap
    rw [List.drop_length] at ha
    have e : os = r := by have := ha; unfold appF at this; exact (Prod.mk.inj this).2
    subst e
    exact ⟨⟨A2, cap2, h.bk, fun a e => (h.far a e).imp (fun h => by omega) id⟩, ButL.pre' hb1 h.but⟩)
  have HP1 := Lib.hid (And.intro hP1 (And.intro hrd1 hAf))
  have HZ1 := Lib.hid hz1
  have hpl := hP1.lt
  obtain ⟨pb, hpb⟩ : ∃ x, x = w.heap.size := ⟨_, rfl⟩
  rw [← hpb] at HP1 p1 hpl HZ1
  have hne : pb ≠ rb := by omega
  rw [← hpb]
  clear q hn hok hrd hAf h0 hr q1 hrd1 hb1 hP1 hz1 hrb hpb
  go_wp2_with fail
  go_loopw [5] (fun iv wr => ∃ (i : Nat) (A1 : Option Addr) (cap1 : Nat) (os : List Ord), iv = .int .i64 i ∧ i ≤ fs.length ∧ Hid (Aw w1 wr rb N most i A A1 cap1 os fs r)) (fun iv _ => fs.length - (intOf iv).toNat)
  case atStart => exact ⟨0, A, cap, L, rfl, Nat.zero_le _, A0⟩
  case round =>
    obtain ⟨i, A1, cap1, os, rfl, hi, HA⟩ := hrel
    clear A0 p1
    have HNE := Lib.hid hne
    clear hne
    have hPr : Blk wr pb 93 #[.slice Af fs.length cp, .int .i64 left, .int .i64 stop] := HP1.out.1.butL HA.out.but (by simpa using HNE.out)
    have p1 : wr.cell? ⟨pb, 0, none⟩ = some (.slice Af fs.length cp) := hPr.cell 0
    by_cases hlt : i < fs.length
    · have e1 : (i : Int) < (fs.length : Int) := by omega
      have HLT := Lib.hid hlt
      have hrdr : Rd wr 4 Af (fs.map Fl.cells) := HP1.out.2.1.keep (fun a e => HA.out.but.block _ (by have := HP1.out.2.2 a e; have := HZ1.out; omega) (by have := HP1.out.2.2 a e; simp; omega))
      obtain ⟨ab, ao, rfl, hmid⟩ := Bk.rd_rngB hrdr HLT.out
      obtain ⟨x, hx⟩ : ∃ x, x = fs[i]'HLT.out := ⟨_, rfl⟩
      replace hmid : wr.rangeAt ab (ao + i * 4) x.cells := by rw [hx]; exact hmid
      have hap := HA.out.ap
      rw [List.drop_eq_getElem_cons HLT.out, ← hx] at hap
      unfold appF at hap
      have hX : Blk (wr.alloc (.cells #[.int .i64 0, .int .i64 0, .int .i64 0, .bool false] 160)) wr.heap.size 160 #[.int .i64 0, .int .i64 0, .int .i64 0, .bool false] := Blk.new _ _ _ _ rfl
      clear hrdr hx hlt
      cases hg : x.gone with
      | true =>
        rw [if_pos hg] at hap
        have hf : (fndI x.id os).isSome = true := by
          cases hf : (fndI x.id os).isSome with
          | true => rfl
          | false => rw [hf, if_neg (by decide)] at hap; cases (Prod.mk.inj hap).1
        rw [hf, if_pos rfl] at hap
        have HG := Lib.hid hg
        have HRM : Hid (∀ W, Below wr.heap.size wr W → Calls Tryz.prog 79 #[.pointer (some ⟨rb, 0, none⟩), .int .i64 x.id] W fun e w' => e = .returned (.tuple #[.agg ((fndI x.id os).getD Are.ord0).arr, .int .i64 0]) ∧ (∃ A' cap', Rb w' rb (N : Int) (most : Int) (rmI x.id os) A' cap' ∧ ∀ a, A' = some a → W.heap.size ≤ a.block ∨ A1 = some a) ∧ ButL [rb] W.heap.size W w') := Lib.hid (fun W hW => by
          have h := Rk.rremove_any (HA.out.bk.ext hW) HA.out.nod x.id
          rw [hf, if_pos rfl] at h
          exact h)
        have HD := Lib.hid hap
        clear hg hap hf
        go_wp2_with (first | ((with_reducible show wpList _ _ _ (⟨_, .load 160 _, _, _, _, _⟩ :: _) _ _); refine wpList_load_mid (by rfl) _ _ (by rfl) _ _ (by rfl) _ _ hmid Tryz.underlying160 rfl (by kernel_rfl) ?_) | (((with_reducible show wpList _ _ _ (⟨_, .store 160 _ _, _, _, _, _⟩ :: _) _ _); refine wpList_store_blk (by rfl) 160 _ _ (by rfl) _ _ (by rfl) (by rfl) _ _ hX (by kernel_rfl) (by rfl) ?_ ?_; (next => exact flArr_one ..); intro w3 hX3 hU3); have c0 : w3.cell? ⟨wr.heap.size, 0, none⟩ = some (.int .i64 x.id) := Blk.cell hX3 0; have c2 : w3.cell? ⟨wr.heap.size, 2, none⟩ = some (.int .i64 x.qty) := Blk.cell hX3 2; have c3 : w3.cell? ⟨wr.heap.size, 3, none⟩ = some (.bool true) := by (rw [← HG.out]; exact Blk.cell hX3 3)) | fail)
        have hb3 : Below wr.heap.size wr w3 := below_upd (by (repeat (first | with_reducible exact Below.refl _ _ | (with_reducible assumption) | (with_reducible refine below_alloc ?_ _) | (with_reducible refine below_ext (w1 := ?_) ?_ ?_; rotate_left 2; (with_reducible assumption)) | (with_reducible refine Below.setCell ?_ ?_ _; rotate_left; ((try simp) <;> omega)) | (with_reducible refine Below.drew ?_) | (with_reducible refine below_drewN ?_ _) | fail))) (Nat.le_refl _) hU3
        refine (HRM.out _ hb3).mono ?_
        rintro e w5 ⟨rfl, ⟨A2, cap2, q2, hf2⟩, hu2⟩
        have W5 := Lib.hid (HA.out.step hb3 q2 hf2 hu2 (Ma.rm_nod HA.out.nod) (fun o ho => HA.out.ok o (Ma.rm_sub ho).1) HD.out)
        clear q2 hf2 hu2 hb3 hU3 hX3 hX c0 c2 c3
        go_wp2_with fail
        go_roundw
        case rel => exact ⟨i + 1, A2, cap2, _, by go_num, HLT.out, W5⟩
        case measure => (have := HLT.out; simp [intOf]; omega)
      | false =>
        rw [if_neg (by simp [hg])] at hap
        have hf : (redF x.id x.qty os).1 = 0 := by
          by_cases hf : (redF x.id x.qty os).1 = 0
          · exact hf
          · rw [if_neg hf] at hap
            exact absurd (Prod.mk.inj hap).1 hf
        rw [if_pos hf] at hap
        have HG := Lib.hid hg
        have HRD : Hid (∀ W, Below wr.heap.size wr W → Calls Tryz.prog 80 #[.pointer (some ⟨rb, 0, none⟩), .int .i64 x.id, .int .i64 x.qty] W fun e w' => e = .returned (.tuple #[.agg (redF x.id x.qty os).2.arr, .int .i64 0]) ∧ (∃ A' cap', Rb w' rb (N : Int) (most : Int) (redO x.id x.qty os) A' cap' ∧ ∀ a, A' = some a → W.heap.size ≤ a.block ∨ A1 = some a) ∧ ButL [rb] W.heap.size W w') := Lib.hid (fun W hW => by
          have h := Rk.rreduce_any (HA.out.bk.ext hW) HA.out.nod HA.out.ok x.id x.qty
          rw [hf] at h
          exact h)
        have HD := Lib.hid hap
        clear hg hap hf
        go_wp2_with (first | ((with_reducible show wpList _ _ _ (⟨_, .load 160 _, _, _, _, _⟩ :: _) _ _); refine wpList_load_mid (by rfl) _ _ (by rfl) _ _ (by rfl) _ _ hmid Tryz.underlying160 rfl (by kernel_rfl) ?_) | (((with_reducible show wpList _ _ _ (⟨_, .store 160 _ _, _, _, _, _⟩ :: _) _ _); refine wpList_store_blk (by rfl) 160 _ _ (by rfl) _ _ (by rfl) (by rfl) _ _ hX (by kernel_rfl) (by rfl) ?_ ?_; (next => exact flArr_one ..); intro w3 hX3 hU3); have c0 : w3.cell? ⟨wr.heap.size, 0, none⟩ = some (.int .i64 x.id) := Blk.cell hX3 0; have c2 : w3.cell? ⟨wr.heap.size, 2, none⟩ = some (.int .i64 x.qty) := Blk.cell hX3 2; have c3 : w3.cell? ⟨wr.heap.size, 3, none⟩ = some (.bool false) := by (rw [← HG.out]; exact Blk.cell hX3 3)) | fail)
        have hb3 : Below wr.heap.size wr w3 := below_upd (by (repeat (first | with_reducible exact Below.refl _ _ | (with_reducible assumption) | (with_reducible refine below_alloc ?_ _) | (with_reducible refine below_ext (w1 := ?_) ?_ ?_; rotate_left 2; (with_reducible assumption)) | (with_reducible refine Below.setCell ?_ ?_ _; rotate_left; ((try simp) <;> omega)) | (with_reducible refine Below.drew ?_) | (with_reducible refine below_drewN ?_ _) | fail))) (Nat.le_refl _) hU3
        refine (HRD.out _ hb3).mono ?_
        rintro e w5 ⟨rfl, ⟨A2, cap2, q2, hf2⟩, hu2⟩
        have W5 := Lib.hid (HA.out.step hb3 q2 hf2 hu2 (red_nod HA.out.nod) (red_le HA.out.ok) HD.out)
        clear q2 hf2 hu2 hb3 hU3 hX3 hX c0 c2 c3
        go_wp2_with fail
        go_roundw
        case rel => exact ⟨i + 1, A2, cap2, _, by go_num, HLT.out, W5⟩
        case measure => (have := HLT.out; simp [intOf]; omega)
    · obtain rfl : i = fs.length := by omega
      have HF := Lib.hid (HFIN.out _ _ _ _ HA.out)
      clear hlt
      go_wp2_with fail
      go_ret
      exact ⟨rfl, HF.out⟩
end Mr
end Go.Proofs.YtbnappiaomiciaaGreat
namespace Go.Proofs.YtbnappiaomiciaaGreat
set_option linter.unusedVariables false
open Go.RowKit
namespace Mr
set_option maxHeartbeats 8000000
set_option maxRecDepth 10000
open Bk (bet srt)
open Sw (Fl Tk mk mkP appF rchO)
open Rk (Rb owns_o7 ord_ok flatO)
open Ma (En beyF edgeF limF staysF fixedF tkE restsF restsR)
theorem wp_run {P : Program} {o : Oper} {a : Act} {w w' : World} {K : Act → World → Prop} {Q : Exit → Act → World → Prop} {v : Value} (hx : (execOp a.eval o).run P w = .ok (.value v) w') (h : K (a.put o.dst v) w') : o.wp P a w K Q := by
  unfold Oper.wp
  rw [hx, Oper.upon_value]
  exact h
theorem wpList_run {P : Program} {ops : Array Oper} {rest : List Oper} {o : Oper} {a : Act} {w w' : World} {Q : Exit → Act → World → Prop} {v : Value} (hgd : Region.wanted o (yielded ops a.tmps) = true) (hx : (execOp a.eval o).run P w = .ok (.value v) w') (h : wpList P ops Q rest (a.put o.dst v) w') : wpList P ops Q (o :: rest) a w :=
  wpList_step fun K hK => by
    rw [if_pos hgd]
    exact wp_run hx (hK _ _ h)
def SC (rb : Nat) (N most : Int) (A : Option Addr) (n cap : Nat) (W : World) : Prop := W.cell? ⟨rb, 2, none⟩ = some (.slice A n cap) ∧ (W.cell? ⟨rb, 0, none⟩ = some (.int .i64 N) ∧ W.cell? ⟨rb, 1, none⟩ = some (.int .i64 most))
theorem rcopy_any {w : World} {rb N most : Nat} {L : List Ord} {A : Option Addr} {cap : Nat} (q : Rb w rb (N : Int) (most : Int) L A cap) : Calls Tryz.prog 77 #[.pointer (some ⟨rb, 0, none⟩)] w fun e w' => ∃ nb A' cap', e = .returned (.pointer (some ⟨nb, 0, none⟩)) ∧ Rb w' nb (N : Int) (most : Int) L A' cap' ∧ Below w.heap.size w w' ∧ w.heap.size ≤ nb := by
  go_enter Tryz.func77, Tryz.ntmps77
  go_wp2_with fail
  refine wp_region_T (S := SC rb N most A L.length cap) 16 (by kernel_rfl) ?_
  have hbd : Below w.heap.size w w.drew := (Below.refl _ _).drew
  have qd := q.ext hbd
  generalize w.drew = w1 at *
  have HS : Hid (∀ W, Below w1.heap.size w1 W → SC rb N most A L.length cap W) := Lib.hid (fun W hW => ⟨(qd.ext hW).hd.cell 2, (qd.ext hW).hd.cell 0, (qd.ext hW).hd.cell 1⟩)
  have hS := HS.out _ (Below.refl _ _)
  have hrd := qd.rd
  have hnil := qd.nil
  have hmap : (L.map Ord.cells).length = L.length := List.length_map _
  have hlen := q.len
  have HB := Lib.hid hbd
  clear qd q hbd
  (refine T_take (i := 0) rfl (by kernel_rfl) (fun _ _ _ _ h => h) hS ?_; apply Exists.intro; refine ⟨.inl ⟨by rfl, fun W hW => ?_⟩, ?_⟩; (next => (obtain ⟨hs1, hs2⟩ := hW; go_simp; first | done | rfl)); simp only [Act.put, List.setIfInBounds_toArray, List.set_cons_zero, List.set_cons_succ])
  (refine T_take (i := 1) rfl (by kernel_rfl) (fun _ _ _ _ h => h) hS ?_; apply Exists.intro; refine ⟨.inl ⟨by rfl, fun W hW => ?_⟩, ?_⟩; (next => (obtain ⟨hs1, hs2⟩ := hW; go_simp; first | done | rfl)); simp only [Act.put, List.setIfInBounds_toArray, List.set_cons_zero, List.set_cons_succ])
  (refine T_take (i := 2) rfl (by kernel_rfl) (fun _ _ _ _ h => h) hS ?_; apply Exists.intro; refine ⟨.inl ⟨by rfl, fun W hW => ?_⟩, ?_⟩; (next => (obtain ⟨hs1, hs2⟩ := hW; go_simp; first | done | rfl)); simp only [Act.put, List.setIfInBounds_toArray, List.set_cons_zero, List.set_cons_succ])
  (refine T_take (i := 3) rfl (by kernel_rfl) (fun _ _ _ _ h => h) hS ?_; apply Exists.intro; refine ⟨.inl ⟨by rfl, fun W hW => ?_⟩, ?_⟩; (next => (obtain ⟨hs1, hs2⟩ := hW; go_simp; first | done | rfl)); simp only [Act.put, List.setIfInBounds_toArray, List.set_cons_zero, List.set_cons_succ])
  (refine T_take (i := 4) rfl (by kernel_rfl) (fun _ _ _ _ h => h) hS ?_; apply Exists.intro; refine ⟨.inl ⟨by rfl, fun W hW => ?_⟩, ?_⟩; (next => (obtain ⟨hs1, hs2⟩ := hW; go_simp; first | done | rfl)); simp only [Act.put, List.setIfInBounds_toArray, List.set_cons_zero, List.set_cons_succ])
  (refine T_take (i := 5) rfl (by kernel_rfl) (fun _ _ _ _ h => h) hS ?_; apply Exists.intro; refine ⟨.inl ⟨by rfl, fun W hW => ?_⟩, ?_⟩; (next => (obtain ⟨hs1, hs2⟩ := hW; go_simp; first | done | rfl)); simp only [Act.put, List.setIfInBounds_toArray, List.set_cons_zero, List.set_cons_succ])
  (refine T_take (i := 6) rfl (by kernel_rfl) (fun _ _ _ _ h => h) hS ?_; apply Exists.intro; refine ⟨.inl ⟨by rfl, fun W hW => ?_⟩, ?_⟩; (next => (obtain ⟨hs1, hs2⟩ := hW; go_simp; first | done | rfl)); simp only [Act.put, List.setIfInBounds_toArray, List.set_cons_zero, List.set_cons_succ])
  (refine T_take (i := 7) rfl (by kernel_rfl) (fun _ _ _ _ h => h) hS ?_; apply Exists.intro; refine ⟨.inl ⟨by rfl, fun W hW => ?_⟩, ?_⟩; (next => (obtain ⟨hs1, hs2⟩ := hW; go_simp; first | done | rfl)); simp only [Act.put, List.setIfInBounds_toArray, List.set_cons_zero, List.set_cons_succ])
  (refine T_take (i := 9) rfl (by kernel_rfl) (fun _ _ _ _ h => h) hS ?_; apply Exists.intro; refine ⟨.inl ⟨by rfl, fun W hW => ?_⟩, ?_⟩; (next => (obtain ⟨hs1, hs2⟩ := hW; go_simp; first | done | rfl)); simp only [Act.put, List.setIfInBounds_toArray, List.set_cons_zero, List.set_cons_succ])
  (refine T_take (i := 10) rfl (by kernel_rfl) (fun _ _ _ _ h => h) hS ?_; apply Exists.intro; refine ⟨.inl ⟨by rfl, fun W hW => ?_⟩, ?_⟩; (next => (obtain ⟨hs1, hs2⟩ := hW; go_simp; first | done | rfl)); simp only [Act.put, List.setIfInBounds_toArray, List.set_cons_zero, List.set_cons_succ])
  (refine T_take (i := 11) rfl (by kernel_rfl) (fun _ _ _ _ h => h) hS ?_; apply Exists.intro; refine ⟨.inl ⟨by rfl, fun W hW => ?_⟩, ?_⟩; (next => (obtain ⟨hs1, hs2⟩ := hW; go_simp; first | done | rfl)); simp only [Act.put, List.setIfInBounds_toArray, List.set_cons_zero, List.set_cons_succ])
  (refine T_take (i := 12) rfl (by kernel_rfl) (fun _ _ _ _ h => h) hS ?_; apply Exists.intro; refine ⟨.inl ⟨by rfl, fun W hW => ?_⟩, ?_⟩; (next => (obtain ⟨hs1, hs2⟩ := hW; go_simp; first | done | rfl)); simp only [Act.put, List.setIfInBounds_toArray, List.set_cons_zero, List.set_cons_succ])
  refine T_all [8] (by kernel_rfl) (by decide) ?_
  intro j hj
  simp only [List.mem_cons, List.mem_nil_iff, or_false, List.not_mem_nil] at hj
  subst hj
  refine T_op rfl (by rfl) ?_
  refine wp_build0 _ 30 (by rfl) 7 Tryz.underlying55 (by kernel_rfl) w1.heap.size (Nat.le_refl _) ?_
  intro wa hown0 hba hza
  refine ⟨.inr (HS.out _ hba), ?_⟩
  simp only [Act.put, List.setIfInBounds_toArray, List.set_cons_zero, List.set_cons_succ]
  refine T_all [13] (by kernel_rfl) (by decide) ?_
  intro j hj
  simp only [List.mem_cons, List.mem_nil_iff, or_false, List.not_mem_nil] at hj
  subst hj
  refine T_op rfl (by rfl) ?_
  refine wp_append_rd _ _ _ (by rfl) w1.heap.size 30 (.agg #[.int .i64 0, .int .i64 0, .int .i64 0, .int .i64 0, .int .i64 0, .int .i64 0, .int .i64 0]) 7 56 Tryz.underlying55 (by kernel_rfl) ⟨rfl, by decide⟩ (.slice (some ⟨w1.heap.size, 0, none⟩) 0 0) 0 [] (by rfl) hown0 A L.length cap (L.map Ord.cells) (by rfl) (hrd.below hba) ⟨hmap, ord_ok _⟩ hnil ⟨by unfold maxLen; omega, by omega⟩ (by omega) ?_
  intro v1 wb hown1 hbb hzb hkb
  have hb1 : Below w1.heap.size w1 wb := hba.trans hbb
  have hown1' : wb.ownsRow w1.heap.size 30 7 v1 L.length (flatO L) := by simpa [flatO] using hown1
  obtain ⟨A1, cap1, rfl, hrd1, hfit1, hnil1, hfar1⟩ := owns_o7 hown1'
  have hS := HS.out _ hb1
  refine ⟨.inr hS, ?_⟩
  simp only [Act.put, List.setIfInBounds_toArray, List.set_cons_zero, List.set_cons_succ]
  (refine T_take (i := 14) rfl (by kernel_rfl) (fun _ _ _ _ h => h) hS ?_; apply Exists.intro; refine ⟨.inl ⟨by rfl, fun W hW => ?_⟩, ?_⟩; (next => (obtain ⟨hs1, hs2⟩ := hW; go_simp; first | done | rfl)); simp only [Act.put, List.setIfInBounds_toArray, List.set_cons_zero, List.set_cons_succ])
  refine T_all [15] (by kernel_rfl) (by decide) ?_
  intro j hj
  simp only [List.mem_cons, List.mem_nil_iff, or_false, List.not_mem_nil] at hj
  subst hj
  refine T_op rfl (by rfl) (wp_run (v := .pointer (some ⟨wb.heap.size, 0, none⟩)) (w' := wb.alloc (.cells #[.int .i64 N, .int .i64 most, .slice A1 L.length cap1] 57)) (by go_simp; done) ⟨.inr (HS.out _ (below_alloc hb1 _)), ?_⟩)
  simp only [Act.put, List.setIfInBounds_toArray, List.set_cons_zero, List.set_cons_succ]
  refine T_all [16] (by kernel_rfl) (by decide) ?_
  intro j hj
  simp only [List.mem_cons, List.mem_nil_iff, or_false, List.not_mem_nil] at hj
  subst hj
  refine T_op rfl (by rfl) (Rk.wp_calm (v := .pointer (some ⟨wb.heap.size, 0, none⟩)) (by go_simp; done) ⟨.inl rfl, ?_⟩)
  simp only [Act.put, List.setIfInBounds_toArray, List.set_cons_zero, List.set_cons_succ]
  refine T_done (by kernel_rfl) ?_
  have hX : Blk (wb.alloc (.cells #[.int .i64 N, .int .i64 most, .slice A1 L.length cap1] 57)) wb.heap.size 57 #[.int .i64 N, .int .i64 most, .slice A1 L.length cap1] := Blk.new _ _ _ _ rfl
  have hba2 : Below wb.heap.size wb (wb.alloc (.cells #[.int .i64 N, .int .i64 most, .slice A1 L.length cap1] 57)) := below_alloc (Below.refl _ _) _
  have HR : Hid (Rb (wb.alloc (.cells #[.int .i64 N, .int .i64 most, .slice A1 L.length cap1] 57)) wb.heap.size (N : Int) (most : Int) L A1 cap1 ∧ Below w.heap.size w (wb.alloc (.cells #[.int .i64 N, .int .i64 most, .slice A1 L.length cap1] 57)) ∧ w.heap.size ≤ wb.heap.size) := Lib.hid ⟨⟨hX, hrd1.below hba2, hfit1, hnil1, fun a e => by have := hfar1 a e; rw [sz_alloc]; omega, hlen⟩, below_ext (below_ext HB.out hb1) hba2, by have := HB.out.size; have := hb1.size; omega⟩
  clear hX hba2 hrd1 hown1' hown1
  go_wp2_with fail
  go_ret
  exact ⟨_, _, _, rfl, HR.out.1, HR.out.2.1, HR.out.2.2⟩
theorem rbey_any (s p lo hi : Int) (w : World) : Calls Tryz.prog 76 #[.int .i64 s, .int .i64 p, .agg #[.int .i64 lo, .int .i64 hi]] w fun x w' => x = .returned (.bool (beyF s lo hi p)) ∧ Below w.heap.size w w' := by
  go_enter Tryz.func76, Tryz.ntmps76
  go_wp2_with fail
  all_goals go_ret
  all_goals refine ⟨ret_bool ?_, by (repeat (first | with_reducible exact Below.refl _ _ | (with_reducible assumption) | (with_reducible refine below_alloc ?_ _) | (with_reducible refine below_ext (w1 := ?_) ?_ ?_; rotate_left 2; (with_reducible assumption)) | (with_reducible refine Below.setCell ?_ ?_ _; rotate_left; ((try simp) <;> omega)) | (with_reducible refine Below.drew ?_) | (with_reducible refine below_drewN ?_ _) | fail))⟩
  all_goals (simp_all [beyF] <;> omega)
theorem redge_any (e : En) (w : World) : Calls Tryz.prog 42 #[.agg e.arr] w fun x w' => x = .returned (.int .i64 (edgeF e)) ∧ Below w.heap.size w w' := by
  have HB := Lib.hid (fun W => rbey_any e.o.side e.o.price e.lo e.hi W)
  have hE0 : Blk (w.alloc (.cells e.arr 43)) w.heap.size 43 e.arr := Blk.new w _ _ _ rfl
  have hm2 := (Ma.en_rng hE0).2
  clear hE0
  cases hb : beyF e.o.side e.lo e.hi e.o.price with
  | false =>
    have HE : Hid (edgeF e = e.o.price) := Lib.hid (by unfold edgeF; rw [if_pos (.inr hb)])
    rw [hb] at HB
    clear hb
    go_enter Tryz.func42, Tryz.ntmps42
    go_wp2_with (first | ((with_reducible show wpList _ _ _ (⟨_, .load 35 _, _, _, _, _⟩ :: _) _ _); refine wpList_load_mid (by rfl) _ _ (by rfl) _ _ (by rfl) _ _ hm2 Tryz.underlying35 rfl (by kernel_rfl) ?_) | (go_at_call 76; refine (HB.out _).mono ?_; rintro e w2 ⟨rfl, hb2⟩; (have hcb2 := fun (b o : Nat) (h : b < _) => hb2.cell (p := ⟨b, o, none⟩) h)) | fail)
    go_ret
    exact ⟨by rw [HE.out]; rfl, by (repeat (first | with_reducible exact Below.refl _ _ | (with_reducible assumption) | (with_reducible refine below_alloc ?_ _) | (with_reducible refine below_ext (w1 := ?_) ?_ ?_; rotate_left 2; (with_reducible assumption)) | (with_reducible refine Below.setCell ?_ ?_ _; rotate_left; ((try simp) <;> omega)) | (with_reducible refine Below.drew ?_) | (with_reducible refine below_drewN ?_ _) | fail))⟩
  | true =>
    rw [hb] at HB
    cases h4 : fixedF e.o.flags with
    | true =>
      have HE : Hid (edgeF e = e.o.price) := Lib.hid (by unfold edgeF; rw [if_pos (.inl h4)])
      unfold fixedF at h4
      clear hb
      go_enter Tryz.func42, Tryz.ntmps42
      go_wp2_with (first | ((with_reducible show wpList _ _ _ (⟨_, .load 35 _, _, _, _, _⟩ :: _) _ _); refine wpList_load_mid (by rfl) _ _ (by rfl) _ _ (by rfl) _ _ hm2 Tryz.underlying35 rfl (by kernel_rfl) ?_) | (go_at_call 76; refine (HB.out _).mono ?_; rintro e w2 ⟨rfl, hb2⟩; (have hcb2 := fun (b o : Nat) (h : b < _) => hb2.cell (p := ⟨b, o, none⟩) h)) | fail)
      go_ret
      exact ⟨by rw [HE.out]; rfl, by (repeat (first | with_reducible exact Below.refl _ _ | (with_reducible assumption) | (with_reducible refine below_alloc ?_ _) | (with_reducible refine below_ext (w1 := ?_) ?_ ?_; rotate_left 2; (with_reducible assumption)) | (with_reducible refine Below.setCell ?_ ?_ _; rotate_left; ((try simp) <;> omega)) | (with_reducible refine Below.drew ?_) | (with_reducible refine below_drewN ?_ _) | fail))⟩
    | false =>
      have HE : Hid (edgeF e = if e.o.side = 0 then e.hi else e.lo) := Lib.hid (by unfold edgeF; rw [if_neg (by rw [h4, hb]; simp)])
      unfold fixedF at h4
      clear hb
      by_cases hs : e.o.side = 0
      · have k0 : (e.o.side == 0) = true := by simp [hs]
        rw [if_pos hs] at HE
        clear hs
        go_enter Tryz.func42, Tryz.ntmps42
        go_wp2_with (first | ((with_reducible show wpList _ _ _ (⟨_, .load 35 _, _, _, _, _⟩ :: _) _ _); refine wpList_load_mid (by rfl) _ _ (by rfl) _ _ (by rfl) _ _ hm2 Tryz.underlying35 rfl (by kernel_rfl) ?_) | (go_at_call 76; refine (HB.out _).mono ?_; rintro e w2 ⟨rfl, hb2⟩; (have hcb2 := fun (b o : Nat) (h : b < _) => hb2.cell (p := ⟨b, o, none⟩) h)) | fail)
        go_ret
        exact ⟨by rw [HE.out]; rfl, by (repeat (first | with_reducible exact Below.refl _ _ | (with_reducible assumption) | (with_reducible refine below_alloc ?_ _) | (with_reducible refine below_ext (w1 := ?_) ?_ ?_; rotate_left 2; (with_reducible assumption)) | (with_reducible refine Below.setCell ?_ ?_ _; rotate_left; ((try simp) <;> omega)) | (with_reducible refine Below.drew ?_) | (with_reducible refine below_drewN ?_ _) | fail))⟩
      · have k0 : (e.o.side == 0) = false := by simp [hs]
        rw [if_neg hs] at HE
        clear hs
        go_enter Tryz.func42, Tryz.ntmps42
        go_wp2_with (first | ((with_reducible show wpList _ _ _ (⟨_, .load 35 _, _, _, _, _⟩ :: _) _ _); refine wpList_load_mid (by rfl) _ _ (by rfl) _ _ (by rfl) _ _ hm2 Tryz.underlying35 rfl (by kernel_rfl) ?_) | (go_at_call 76; refine (HB.out _).mono ?_; rintro e w2 ⟨rfl, hb2⟩; (have hcb2 := fun (b o : Nat) (h : b < _) => hb2.cell (p := ⟨b, o, none⟩) h)) | fail)
        go_ret
        exact ⟨by rw [HE.out]; rfl, by (repeat (first | with_reducible exact Below.refl _ _ | (with_reducible assumption) | (with_reducible refine below_alloc ?_ _) | (with_reducible refine below_ext (w1 := ?_) ?_ ?_; rotate_left 2; (with_reducible assumption)) | (with_reducible refine Below.setCell ?_ ?_ _; rotate_left; ((try simp) <;> omega)) | (with_reducible refine Below.drew ?_) | (with_reducible refine below_drewN ?_ _) | fail))⟩
section
variable {w : World} {rb N most : Nat} {L : List Ord} {A : Option Addr} {cap : Nat}
theorem rmake_any (q : Rb w rb (N : Int) (most : Int) L A cap) (t : Tk) (hq2 : t.qty ≤ 9223372036854775807) (hok : ∀ o ∈ L, 0 ≤ o.qty ∧ o.qty ≤ 9223372036854775807) : Calls Tryz.prog 75 #[.pointer (some ⟨rb, 0, none⟩), .agg t.arr] w (RmPost w (mkP t L)) := by
  unfold mkP
  split
  · rename_i h
    exact rmake_on q t h.1 h.2 hq2 hok
  · rename_i h
    exact rmake_off q t h
theorem built_rtk (s o l q lo hi f : Int) : Tryz.prog.built 157 [(0, .int .i64 s), (1, .int .i64 o), (2, .int .i64 l), (3, .int .i64 q), (4, .agg #[.int .i64 lo, .int .i64 hi]), (5, .int .i64 f)] = some (Tk.mk s o l q lo hi f).arr := by kernel_rfl
theorem rplan_any (q : Rb w rb (N : Int) (most : Int) L A cap) (e : En) (hq2 : e.o.qty ≤ 9223372036854775807) (hok : ∀ o ∈ L, 0 ≤ o.qty ∧ o.qty ≤ 9223372036854775807) : Calls Tryz.prog 39 #[.pointer (some ⟨rb, 0, none⟩), .agg e.arr] w (RmPost w (mkP (tkE e) L)) := by
  have hE0 : Blk ((w.alloc (.cells e.arr 43)).alloc (.cells #[.slice none 0 0, .int .i64 0, .int .i64 0] 93)) w.heap.size 43 e.arr := (Blk.new w _ _ _ rfl).alloc _
  have hP0 : Blk ((w.alloc (.cells e.arr 43)).alloc (.cells #[.slice none 0 0, .int .i64 0, .int .i64 0] 93)) (w.heap.size + 1) 93 #[.slice none 0 0, .int .i64 0, .int .i64 0] := Blk.new _ _ _ _ (sz_alloc _ _)
  have hb0 : Below w.heap.size w ((w.alloc (.cells e.arr 43)).alloc (.cells #[.slice none 0 0, .int .i64 0, .int .i64 0] 93)) := by (repeat (first | with_reducible exact Below.refl _ _ | (with_reducible assumption) | (with_reducible refine below_alloc ?_ _) | (with_reducible refine below_ext (w1 := ?_) ?_ ?_; rotate_left 2; (with_reducible assumption)) | (with_reducible refine Below.setCell ?_ ?_ _; rotate_left; ((try simp) <;> omega)) | (with_reducible refine Below.drew ?_) | (with_reducible refine below_drewN ?_ _) | fail))
  have hm2 := (Ma.en_rng hE0).2
  clear hE0
  obtain ⟨lim, hl⟩ : ∃ lim, lim = limF e := ⟨_, rfl⟩
  have hT : tkE e = ⟨e.o.side, e.o.owner, lim, e.o.qty, e.lo, e.hi, e.self⟩ := by rw [hl]; rfl
  rw [hT]
  have HMK := Lib.hid (fun W (hW : Below w.heap.size w W) => rmake_any (q.ext hW) ⟨e.o.side, e.o.owner, lim, e.o.qty, e.lo, e.hi, e.self⟩ hq2 hok)
  clear q hq2 hok hT
  unfold limF at hl
  by_cases h2 : e.typ = 2
  all_goals
    first | rw [if_pos h2] at hl | rw [if_neg h2] at hl
    have k2 : (e.typ == 2) = decide (e.typ = 2) := by simp [h2]
    first | rw [decide_eq_true h2] at k2 | rw [decide_eq_false h2] at k2
    subst hl
    clear h2
    go_enter Tryz.func39, Tryz.ntmps39
    go_wp2_with (first | ((with_reducible show wpList _ _ _ (⟨_, .load 35 _, _, _, _, _⟩ :: _) _ _); refine wpList_load_mid (by rfl) _ _ (by rfl) _ _ (by rfl) _ _ hm2 Tryz.underlying35 rfl (by kernel_rfl) ?_) | ((with_reducible show wpList _ _ _ (⟨_, .build _ _, _, _, _, _⟩ :: _) _ _); refine wpList_build_is (by rfl) _ _ (by rfl) ?_ ?_ ?_; rotate_left; (next => simp only [List.map_toArray, List.map_cons, List.map_nil, go_sem]; exact built_rtk ..)) | (go_at_call 75; refine (HMK.out _ hb0).mono ?_; rintro x w2 ⟨⟨v, rfl, hown2⟩, hb2⟩; have hP2 := hP0.ext hb2; obtain ⟨A2, cp2, rfl, _, _, _, _⟩ := owns_rfl hown2) | ((with_reducible show wpList _ _ _ (⟨_, .store 93 _ _, _, _, _, _⟩ :: _) _ _); refine wpList_store_blk (by rfl) 93 _ _ (by rfl) _ _ (by rfl) (by rfl) _ _ hP2 (by kernel_rfl) (by rfl) ?_ ?_; (next => first | (simp [Value.oneCell']; done) | (simp [Value.oneCell', Edt.cells]; done) | exact Are.ordArr_one _); intro w3 hP3 hU3) | fail)
    refine bodyPost_ret (results_rplan rfl _ _ (w.heap.size + 1) _ (by rfl) hP3 rfl) rfl ⟨⟨_, rfl, Sw.owns_upd (Rk.owns_mono hown2 hb0.size) hP2 (by decide) hU3⟩, below_upd (below_ext hb0 hb2) (by omega) hU3⟩
/-- Whether what a plan leaves rests: as the document says it. -/
theorem rrests_any (q : Rb w rb (N : Int) (most : Int) L A cap) (e : En) (hs : e.o.side = 0 ∨ e.o.side = 1) (hq1 : 1 ≤ e.o.qty) (hq2 : e.o.qty ≤ 4294967296) (hn : (L.map (·.id)).Nodup) (hok : ∀ o ∈ L, 1 ≤ o.qty ∧ o.qty ≤ 4294967296) : Calls Tryz.prog 40 #[.pointer (some ⟨rb, 0, none⟩), .agg e.arr] w fun x w' => x = .returned (.bool (restsF L e (mkP (tkE e) L))) ∧ Below w.heap.size w w' := by
  have G := Ma.plan_goes hs hq1 (fun o ho => (hok o ho).1) hn
  rw [← Ma.rests_eq hs G]
  have hA0 : (appF (mkP (tkE e) L).1 L).1 = 0 := Sw.app_ok _ _ _ G.len (fun i h1 h2 => ⟨(G.ok i h1 h2).1, (G.ok i h1 h2).2.1, (G.ok i h1 h2).2.2.1⟩) G.ids G.fnd
  have hfl : (mkP (tkE e) L).1.length ≤ 1000 := Nat.le_trans (Ma.mkP_len _ _) q.len
  have HP := Lib.hid (fun W (hW : Below w.heap.size w W) => rplan_any (q.ext hW) e (by omega) (fun o ho => ⟨by have := hok o ho; omega, by have := hok o ho; omega⟩))
  have HE := Lib.hid (fun W => redge_any e W)
  have HB := Lib.hid (fun W => rbey_any e.o.side (edgeF e) e.lo e.hi W)
  have HC := Lib.hid (fun W (hW : Below w.heap.size w W) => rcopy_any (q.ext hW))
  have HQ := Lib.hid (And.intro hn (And.intro (fun o ho => (hok o ho).2) hA0))
  have hE0 : Blk (w.alloc (.cells e.arr 43)) w.heap.size 43 e.arr := Blk.new w _ _ _ rfl
  have hb0 : Below w.heap.size w (w.alloc (.cells e.arr 43)) := by (repeat (first | with_reducible exact Below.refl _ _ | (with_reducible assumption) | (with_reducible refine below_alloc ?_ _) | (with_reducible refine below_ext (w1 := ?_) ?_ ?_; rotate_left 2; (with_reducible assumption)) | (with_reducible refine Below.setCell ?_ ?_ _; rotate_left; ((try simp) <;> omega)) | (with_reducible refine Below.drew ?_) | (with_reducible refine below_drewN ?_ _) | fail))
  unfold restsR
  generalize mkP (tkE e) L = p at *
  obtain ⟨fs, left, stop⟩ := p
  simp only at hfl ⊢
  simp only at HQ
  obtain ⟨ed, hed⟩ : ∃ x, x = edgeF e := ⟨_, rfl⟩
  rw [← hed] at HE HB ⊢
  obtain ⟨bb, hbb⟩ : ∃ x, x = beyF e.o.side e.lo e.hi ed := ⟨_, rfl⟩
  rw [← hbb] at HB ⊢
  obtain ⟨rr, hrr⟩ : ∃ x, x = rchO e.o.side ed (appF fs L).2 := ⟨_, rfl⟩
  rw [← hrr]
  have HRR := Lib.hid hrr
  obtain ⟨res, hres⟩ : ∃ x, x = (decide (left ≠ 0 ∧ stop ≠ 3 ∧ staysF e = true ∧ 1 ≤ ed ∧ ed ≤ 1099511627776 ∧ bb = false) && !rr) := ⟨_, rfl⟩
  rw [← hres]
  have HRES := Lib.hid hres
  clear hed hbb hrr hres q hq1 hq2 hn hok G hA0
  go_enter Tryz.func40, Tryz.ntmps40
  go_upto_region 3 with (first | ((with_reducible show wpList _ _ _ (⟨_, .load 43 _, _, _, _, _⟩ :: _) _ _); refine wpList_load_ho 43 _ (by rfl) (by rfl) ?_ (.pointer (some ⟨_, 0, none⟩)) (by rfl) ?_ _ Tryz.underlying43 rfl ?_ ?_; rotate_left; (next => (repeat (first | (with_reducible refine BlkAt.new _ _ _ _ ?_; ((try simp) <;> omega)) | (with_reducible assumption) | (with_reducible refine Blk.at (t := ?_) ?_; rotate_left; with_reducible assumption) | with_reducible refine BlkAt.alloc ?_ _ | with_reducible refine BlkAt.drew ?_ | (with_reducible refine BlkAt.setSame ?_ _ _) | (with_reducible refine BlkAt.setCell ?_ ?_ _; rotate_left; ((try simp) <;> omega)) | (with_reducible refine BlkAt.ext (w := ?_) ?_ ?_; rotate_left 2; (with_reducible assumption)) | fail))); (next => kernel_rfl)) | (go_at_call 39; refine (HP.out _ hb0).mono ?_; rintro x w2 ⟨⟨v, rfl, hown2⟩, hb2⟩; have hP2 := Blk.new w2 93 #[.slice none 0 0, .int .i64 0, .int .i64 0] _ rfl; obtain ⟨A2, cp2, rfl, hrd2, _, hnil2, hfar2⟩ := owns_rfl hown2; have hE2 := hE0.ext hb2) | (((with_reducible show wpList _ _ _ (⟨_, .store 93 _ _, _, _, _, _⟩ :: _) _ _); refine wpList_store_blk (by rfl) 93 _ _ (by rfl) _ _ (by rfl) (by rfl) _ _ hP2 (by kernel_rfl) (by rfl) ?_ ?_; (next => first | (simp [Value.oneCell']; done) | (simp [Value.oneCell', Edt.cells]; done) | exact Are.ordArr_one _); intro w3 hP3 hU3); have hb23 : Below w2.heap.size w2 w3 := below_upd (by (repeat (first | with_reducible exact Below.refl _ _ | (with_reducible assumption) | (with_reducible refine below_alloc ?_ _) | (with_reducible refine below_ext (w1 := ?_) ?_ ?_; rotate_left 2; (with_reducible assumption)) | (with_reducible refine Below.setCell ?_ ?_ _; rotate_left; ((try simp) <;> omega)) | (with_reducible refine Below.drew ?_) | (with_reducible refine below_drewN ?_ _) | fail))) (Nat.le_refl _) hU3; have hE3 := hE2.ext hb23; have hrd3 := hrd2.below hb23) | (go_at_call 42; refine (HE.out _).mono ?_; rintro x w4 ⟨rfl, hb4⟩; have hE4 := hE3.ext hb4; have hP4 := hP3.ext hb4; have hrd4 := hrd3.below hb4) | fail)
  have hb04 : Below w.heap.size w w4 := below_ext (below_ext (below_ext hb0 hb2) hb23) hb4
  have hfar4 : ∀ a, A2 = some a → a.block < w4.heap.size := fun a h => by have := (hfar2 a h).2; have := hb23.size; have := hb4.size; omega
  have c1 : w4.cell? ⟨w.heap.size, 7, none⟩ = some (.int .i64 e.typ) := hE4.cell 7
  have c2 : w4.cell? ⟨w.heap.size, 2, none⟩ = some (.int .i64 e.o.side) := hE4.cell 2
  have hm2 := (Ma.en_rng hE4).2
  obtain ⟨pb, hpb⟩ : ∃ x, x = w2.heap.size := ⟨_, rfl⟩
  rw [← hpb] at hP4
  rw [← hpb]
  have p1 : w4.cell? ⟨pb, 1, none⟩ = some (.int .i64 left) := hP4.cell 1
  have p2 : w4.cell? ⟨pb, 2, none⟩ = some (.int .i64 stop) := hP4.cell 2
  have HH := Lib.hid (And.intro hE4 (And.intro hrd4 hfar4))
  clear HP HE hP2 hP3 hE2 hE3 hrd2 hrd3 hU3 hb23 hb2 hb4 hfar2 hpb hnil2 hE0 hb0 hown2 hE4 hrd4 hfar4
  have hst : staysF e = decide (e.typ = 1 ∨ e.typ = 5) := rfl
  by_cases h0 : left = 0
  · obtain rfl : res = false := by rw [HRES.out, decide_eq_false (fun h => h.1 h0)]; rfl
    have k0 : (left == 0) = true := by simpa using h0
    clear h0 hs hst
    go_wp2_with fail
    go_ret
    exact ⟨rfl, hb04⟩
  have k0 : (left == 0) = false := by simpa using h0
  by_cases h1 : stop = 3
  · obtain rfl : res = false := by rw [HRES.out, decide_eq_false (fun h => h.2.1 h1)]; rfl
    have k1 : (stop == 3) = true := by simpa using h1
    clear h0 h1 hs hst
    go_wp2_with fail
    go_ret
    exact ⟨rfl, hb04⟩
  have k1 : (stop == 3) = false := by simpa using h1
  by_cases h2 : e.typ = 1 ∨ e.typ = 5
  rotate_left
  · obtain rfl : res = false := by rw [HRES.out, hst, decide_eq_false (fun h => h2 (of_decide_eq_true h.2.2.1))]; rfl
    have k2 : (e.typ != 1) = true := by simpa using (by omega : ¬ e.typ = 1)
    have k3 : (e.typ != 5) = true := by simpa using (by omega : ¬ e.typ = 5)
    clear h0 h1 h2 hs hst
    go_wp2_with fail
    go_ret
    exact ⟨rfl, hb04⟩
  by_cases h3 : ed < 1
  · obtain rfl : res = false := by rw [HRES.out, decide_eq_false (fun h => by have := h.2.2.2.1; omega)]; rfl
    clear h0 h1 hs hst
    rcases h2 with h2 | h2
    · have k2 : (e.typ != 1) = false := by simpa using h2
      clear h2
      go_wp2_with fail
      go_ret
      exact ⟨rfl, hb04⟩
    · have k2 : (e.typ != 1) = true := by simpa using (by omega : ¬ e.typ = 1)
      have k3 : (e.typ != 5) = false := by simpa using h2
      clear h2
      go_wp2_with fail
      go_ret
      exact ⟨rfl, hb04⟩
  by_cases h4 : 1099511627776 < ed
  · obtain rfl : res = false := by rw [HRES.out, decide_eq_false (fun h => by have := h.2.2.2.2.1; omega)]; rfl
    clear h0 h1 hs hst
    rcases h2 with h2 | h2
    · have k2 : (e.typ != 1) = false := by simpa using h2
      clear h2
      go_wp2_with fail
      go_ret
      exact ⟨rfl, hb04⟩
    · have k2 : (e.typ != 1) = true := by simpa using (by omega : ¬ e.typ = 1)
      have k3 : (e.typ != 5) = false := by simpa using h2
      clear h2
      go_wp2_with fail
      go_ret
      exact ⟨rfl, hb04⟩
  cases bb with
  | true =>
    obtain rfl : res = false := by rw [HRES.out, decide_eq_false (fun h => by have := h.2.2.2.2.2; cases this)]; rfl
    clear h0 h1 hs hst
    rcases h2 with h2 | h2
    · have k2 : (e.typ != 1) = false := by simpa using h2
      clear h2
      go_wp2_with (first | ((with_reducible show wpList _ _ _ (⟨_, .load 35 _, _, _, _, _⟩ :: _) _ _); refine wpList_load_midw (by rfl) _ _ (by rfl) _ _ (by rfl) _ _ hm2 Tryz.underlying35 rfl (by kernel_rfl) ?_) | (go_at_call 76; refine (HB.out _).mono ?_; rintro x w5 ⟨rfl, hb5⟩) | fail)
      go_ret
      exact ⟨rfl, below_ext hb04 hb5⟩
    · have k2 : (e.typ != 1) = true := by simpa using (by omega : ¬ e.typ = 1)
      have k3 : (e.typ != 5) = false := by simpa using h2
      clear h2
      go_wp2_with (first | ((with_reducible show wpList _ _ _ (⟨_, .load 35 _, _, _, _, _⟩ :: _) _ _); refine wpList_load_midw (by rfl) _ _ (by rfl) _ _ (by rfl) _ _ hm2 Tryz.underlying35 rfl (by kernel_rfl) ?_) | (go_at_call 76; refine (HB.out _).mono ?_; rintro x w5 ⟨rfl, hb5⟩) | fail)
      go_ret
      exact ⟨rfl, below_ext hb04 hb5⟩
  | false =>
    obtain rfl : res = !rr := by rw [HRES.out, hst, decide_eq_true ⟨h0, h1, decide_eq_true h2, by omega, by omega, rfl⟩]; rfl
    have e3 : decide (ed < 1) = false := decide_eq_false h3
    have e4 : decide (1099511627776 < ed) = false := decide_eq_false h4
    have lE := HH.out.1.lt
    have lP := hP4.lt
    have HP4 := Lib.hid hP4
    have HS := Lib.hid hs
    clear h0 h1 hs hst h3 h4 hP4
    rcases h2 with h2 | h2
    all_goals
      first
      | (have k2 : (e.typ != 1) = false := by simpa using h2)
      | (have k2 : (e.typ != 1) = true := by simpa using (by omega : ¬ e.typ = 1)
         have k3 : (e.typ != 5) = false := by simpa using h2)
      clear h2
      go_upto_region 6 with (first | ((with_reducible show wpList _ _ _ (⟨_, .load 35 _, _, _, _, _⟩ :: _) _ _); refine wpList_load_midw (by rfl) _ _ (by rfl) _ _ (by rfl) _ _ hm2 Tryz.underlying35 rfl (by kernel_rfl) ?_) | (go_at_call 76; refine (HB.out _).mono ?_; rintro x w5 ⟨rfl, hb5⟩) | (go_at_call 77; refine (HC.out _ (below_ext hb04 hb5)).mono ?_; rintro x w6 ⟨nb, A6, cap6, rfl, q6, hb6, hnb⟩) | fail)
      have hb46 := below_ext hb5 hb6
      have hb05 := below_ext hb04 hb5
      have hP6 := HP4.out.ext hb46
      have hE6 := HH.out.1.ext hb46
      have HAP := Lib.hid (rapply_ok q6 HQ.out.1 HQ.out.2.1 (HH.out.2.1.below hb46) (fun a h => by have := HH.out.2.2 a h; have := hb5.size; have := hb6.size; omega) hfl HQ.out.2.2 (cp := cp2) left stop)
      clear hm2 c1 c2 p1 p2
      go_wp2_with (first | ((with_reducible show wpList _ _ _ (⟨_, .load 93 _, _, _, _, _⟩ :: _) _ _); refine wpList_load_ho 93 _ (by rfl) (by rfl) ?_ (.pointer (some ⟨_, 0, none⟩)) (by rfl) ?_ _ Tryz.underlying93 rfl ?_ ?_; rotate_left; (next => (repeat (first | (with_reducible refine BlkAt.new _ _ _ _ ?_; ((try simp) <;> omega)) | (with_reducible assumption) | (with_reducible refine Blk.at (t := ?_) ?_; rotate_left; with_reducible assumption) | with_reducible refine BlkAt.alloc ?_ _ | with_reducible refine BlkAt.drew ?_ | (with_reducible refine BlkAt.setSame ?_ _ _) | (with_reducible refine BlkAt.setCell ?_ ?_ _; rotate_left; ((try simp) <;> omega)) | (with_reducible refine BlkAt.ext (w := ?_) ?_ ?_; rotate_left 2; (with_reducible assumption)) | fail))); (next => kernel_rfl)) | fail)
      refine HAP.out.mono ?_
      rintro x w7 ⟨rfl, ⟨A7, cap7, q7, _⟩, hu7⟩
      have hu57 : Below w5.heap.size w5 w7 := (hb6.trans ((hu7.below (C := w5.heap.size) (fun g hg => by rw [List.mem_singleton] at hg; omega) hb6.size)))
      have hE7 := HH.out.1.ext (below_ext hb5 hu57)
      have c7 : w7.cell? ⟨w.heap.size, 2, none⟩ = some (.int .i64 e.o.side) := hE7.cell 2
      have hRC := Sw.rreaches_any q7 e.o.side ed
      rw [← HRR.out] at hRC
      have HRC := Lib.hid hRC
      clear hRC HAP hE6 hP6 hu7 q7 hE7
      go_wp2_with (first | (go_at_call 38; refine HRC.out.mono ?_; rintro x w8 ⟨rfl, hb8⟩) | fail)
      go_ret
      exact ⟨rfl, below_ext (below_ext hb05 hu57) hb8⟩
end
end Mr
end Go.Proofs.YtbnappiaomiciaaGreat
namespace Go.Proofs.YtbnappiaomiciaaGreat
set_option linter.unusedVariables false
open Go.RowKit
namespace Mr
set_option maxHeartbeats 8000000
set_option maxRecDepth 10000
open Bk (fndI roomO)
open Sw (mkP rchO)
open Rk (Rb plcI)
open Ma (En tkE edgeF restsF rangedF askQ checkF)
theorem check_unf (N most : Nat) (os : List Ord) (e : En) : checkF N most os e = if askQ N most os e 0 = true then 1 else if askQ N most os e 1 = true then 9 else if askQ N most os e 2 = true then 6 else if askQ N most os e 3 = true then 12 else if askQ N most os e 4 = true then 13 else if askQ N most os e 5 = true then 7 else 0 := rfl
section
variable {w : World} {rb N most : Nat} {L : List Ord} {A : Option Addr} {cap : Nat}
theorem rcheck_any (q : Rb w rb (N : Int) (most : Int) L A cap) (e : En) (hn : (L.map (·.id)).Nodup) (hok : ∀ o ∈ L, 1 ≤ o.qty ∧ o.qty ≤ 4294967296) : Calls Tryz.prog 10 #[.pointer (some ⟨rb, 0, none⟩), .agg e.arr] w fun x w' => x = .returned (.int .i64 (checkF N most L e)) ∧ Below w.heap.size w w' := by
  have HQ := Lib.hid q
  have HOK := Lib.hid (And.intro hn hok)
  have hE0 : Blk (w.alloc (.cells e.arr 43)) w.heap.size 43 e.arr := Blk.new w _ _ _ rfl
  have hb0 : Below w.heap.size w (w.alloc (.cells e.arr 43)) := by (repeat (first | with_reducible exact Below.refl _ _ | (with_reducible assumption) | (with_reducible refine below_alloc ?_ _) | (with_reducible refine below_ext (w1 := ?_) ?_ ?_; rotate_left 2; (with_reducible assumption)) | (with_reducible refine Below.setCell ?_ ?_ _; rotate_left; ((try simp) <;> omega)) | (with_reducible refine Below.drew ?_) | (with_reducible refine below_drewN ?_ _) | fail))
  have hm1 := (Ma.en_rng hE0).1
  rw [check_unf]
  obtain ⟨b0, hb0'⟩ : ∃ b, b = askQ N most L e 0 := ⟨_, rfl⟩
  obtain ⟨b1, hb1'⟩ : ∃ b, b = askQ N most L e 1 := ⟨_, rfl⟩
  obtain ⟨b2, hb2'⟩ : ∃ b, b = askQ N most L e 2 := ⟨_, rfl⟩
  obtain ⟨b3, hb3'⟩ : ∃ b, b = askQ N most L e 3 := ⟨_, rfl⟩
  obtain ⟨b4, hb4'⟩ : ∃ b, b = askQ N most L e 4 := ⟨_, rfl⟩
  obtain ⟨b5, hb5'⟩ : ∃ b, b = askQ N most L e 5 := ⟨_, rfl⟩
  rw [← hb0', ← hb1', ← hb2', ← hb3', ← hb4', ← hb5']
  have H0 : Hid (b0 = decide ((e.o.side ≠ 0 ∧ e.o.side ≠ 1) ∨ e.typ < 1 ∨ 5 < e.typ)) := Lib.hid hb0'
  have H1 : Hid (b1 = (decide (¬ (1 ≤ e.o.qty ∧ e.o.qty ≤ 4294967296)) || rangedF e)) := Lib.hid hb1'
  have H2 : Hid (b2 = (fndI e.o.id L).isSome) := Lib.hid hb2'
  have H3 : Hid (b3 = (decide (e.typ = 5) && rchO e.o.side e.o.price L)) := Lib.hid hb3'
  have H4 : Hid (b4 = (decide (e.typ = 4) && decide (0 < (mkP (tkE e) L).2.1))) := Lib.hid hb4'
  have H5 : Hid (b5 = (restsF L e (mkP (tkE e) L) && !roomO N most e.o.side (edgeF e) L)) := Lib.hid hb5'
  clear hb0' hb1' hb2' hb3' hb4' hb5' q hn hok
  have hO1 : Blk ((w.alloc (.cells e.arr 43)).alloc (.cells Are.ord0.arr 30)) (w.heap.size + 1) 30 Are.ord0.arr := Blk.new _ _ _ _ (sz_alloc _ _)
  obtain ⟨res, hres⟩ : ∃ z : Int, z = if b0 = true then 1 else if b1 = true then 9 else if b2 = true then 6 else if b3 = true then 12 else if b4 = true then 13 else if b5 = true then 7 else 0 := ⟨_, rfl⟩
  rw [← hres]
  have HRES := Lib.hid hres
  clear hres
  go_enter Tryz.func10, Tryz.ntmps10
  go_upto_region 2 with (first | ((with_reducible show wpList _ _ _ (⟨_, .load 30 _, _, _, _, _⟩ :: _) _ _); refine wpList_load_mid (by rfl) _ _ (by rfl) _ _ (by rfl) _ _ hm1 Tryz.underlying30 rfl (by kernel_rfl) ?_) | (((with_reducible show wpList _ _ _ (⟨_, .store 30 _ _, _, _, _, _⟩ :: _) _ _); refine wpList_store_blk (by rfl) 30 _ _ (by rfl) _ _ (by rfl) (by rfl) _ _ hO1 (by kernel_rfl) (by rfl) ?_ ?_; (next => first | (simp [Value.oneCell']; done) | (simp [Value.oneCell', Edt.cells]; done) | exact Are.ordArr_one _); intro w1 hO2 hU2); simp only [Act.put]) | fail)
  have hb01 : Below w.heap.size w w1 := below_upd (by (repeat (first | with_reducible exact Below.refl _ _ | (with_reducible assumption) | (with_reducible refine below_alloc ?_ _) | (with_reducible refine below_ext (w1 := ?_) ?_ ?_; rotate_left 2; (with_reducible assumption)) | (with_reducible refine Below.setCell ?_ ?_ _; rotate_left; ((try simp) <;> omega)) | (with_reducible refine Below.drew ?_) | (with_reducible refine below_drewN ?_ _) | fail))) (by omega) hU2
  have hE1 : Blk w1 w.heap.size 43 e.arr := (hE0.alloc _).upd (by omega) hU2
  obtain ⟨ob, hob⟩ : ∃ x, x = w.heap.size + 1 := ⟨_, rfl⟩
  rw [← hob] at hO2
  rw [← hob]
  have HB := Lib.hid hb01
  have HE := Lib.hid (And.intro hE1 hO2)
  have t7 : w1.cell? ⟨w.heap.size, 7, none⟩ = some (.int .i64 e.typ) := hE1.cell 7
  have o0 : w1.cell? ⟨ob, 0, none⟩ = some (.int .i64 e.o.id) := hO2.cell 0
  have o2 : w1.cell? ⟨ob, 2, none⟩ = some (.int .i64 e.o.side) := hO2.cell 2
  have o3 : w1.cell? ⟨ob, 3, none⟩ = some (.int .i64 e.o.price) := hO2.cell 3
  have o4 : w1.cell? ⟨ob, 4, none⟩ = some (.int .i64 e.o.qty) := hO2.cell 4
  clear hE0 hb0 hm1 hO1 hU2 hb01 hob hE1 hO2
  go_cut [29] (fun v wx => v = .bool b0 ∧ w1 = wx)
  case first =>
    by_cases h0 : e.o.side = 0
    · have k0 : (e.o.side != 0) = false := by simpa using h0
      by_cases g1 : e.typ < 1
      · have d1 : decide (e.typ < 1) = true := decide_eq_true g1
        have hbb : Hid (b0 = true) := Lib.hid (by rw [H0.out]; exact decide_eq_true (.inr (.inl g1)))
        clear h0 g1
        go_wp2_with fail
        go_meet
        exact ⟨by rw [hbb.out], rfl⟩
      have d1 : decide (e.typ < 1) = false := decide_eq_false g1
      by_cases g2 : 5 < e.typ
      · have d2 : decide (5 < e.typ) = true := decide_eq_true g2
        have hbb : Hid (b0 = true) := Lib.hid (by rw [H0.out]; exact decide_eq_true (.inr (.inr g2)))
        clear h0 g1 g2
        go_wp2_with fail
        go_meet
        exact ⟨by rw [hbb.out], rfl⟩
      have d2 : decide (5 < e.typ) = false := decide_eq_false g2
      have hbb : Hid (b0 = false) := Lib.hid (by rw [H0.out]; exact decide_eq_false (by omega))
      clear h0 g1 g2
      go_wp2_with fail
      go_meet
      exact ⟨by rw [hbb.out], rfl⟩
    have k0 : (e.o.side != 0) = true := by simpa using h0
    by_cases h1 : e.o.side = 1
    · have k1 : (e.o.side != 1) = false := by simpa using h1
      by_cases g1 : e.typ < 1
      · have d1 : decide (e.typ < 1) = true := decide_eq_true g1
        have hbb : Hid (b0 = true) := Lib.hid (by rw [H0.out]; exact decide_eq_true (.inr (.inl g1)))
        clear h0 h1 g1
        go_wp2_with fail
        go_meet
        exact ⟨by rw [hbb.out], rfl⟩
      have d1 : decide (e.typ < 1) = false := decide_eq_false g1
      by_cases g2 : 5 < e.typ
      · have d2 : decide (5 < e.typ) = true := decide_eq_true g2
        have hbb : Hid (b0 = true) := Lib.hid (by rw [H0.out]; exact decide_eq_true (.inr (.inr g2)))
        clear h0 h1 g1 g2
        go_wp2_with fail
        go_meet
        exact ⟨by rw [hbb.out], rfl⟩
      have d2 : decide (5 < e.typ) = false := decide_eq_false g2
      have hbb : Hid (b0 = false) := Lib.hid (by rw [H0.out]; exact decide_eq_false (by omega))
      clear h0 h1 g1 g2
      go_wp2_with fail
      go_meet
      exact ⟨by rw [hbb.out], rfl⟩
    have k1 : (e.o.side != 1) = true := by simpa using h1
    have hbb : Hid (b0 = true) := Lib.hid (by rw [H0.out]; exact decide_eq_true (.inl ⟨h0, h1⟩))
    clear h0 h1
    go_wp2_with fail
    go_meet
    exact ⟨by rw [hbb.out], rfl⟩
  case rest =>
    obtain ⟨rfl, rfl⟩ := hcut
    cases b0 with
    | true =>
      obtain rfl : res = 1 := by rw [HRES.out]; rfl
      go_wp2_with fail
      go_ret
      exact ⟨rfl, HB.out⟩
    | false =>
      go_upto_region 4 with fail
      go_cut [62] (fun v wx => v = .bool b1 ∧ w1 = wx)
      case first =>
        by_cases g1 : e.o.qty < 1
        · have d1 : decide (e.o.qty < 1) = true := decide_eq_true g1
          have hbb : Hid (b1 = true) := Lib.hid (by rw [H1.out]; rw [decide_eq_true (by omega), Bool.true_or])
          clear g1
          go_wp2_with fail
          go_meet
          exact ⟨by rw [hbb.out], rfl⟩
        have d1 : decide (e.o.qty < 1) = false := decide_eq_false g1
        by_cases g2 : 4294967296 < e.o.qty
        · have d2 : decide (4294967296 < e.o.qty) = true := decide_eq_true g2
          have hbb : Hid (b1 = true) := Lib.hid (by rw [H1.out]; rw [decide_eq_true (by omega), Bool.true_or])
          clear g1 g2
          go_wp2_with fail
          go_meet
          exact ⟨by rw [hbb.out], rfl⟩
        have d2 : decide (4294967296 < e.o.qty) = false := decide_eq_false g2
        have HD : Hid (decide (¬ (1 ≤ e.o.qty ∧ e.o.qty ≤ 4294967296)) = false) := Lib.hid (decide_eq_false (by omega))
        clear g1 g2
        by_cases g3 : e.typ = 2
        · have k3 : (e.typ == 2) = true := by simpa using g3
          have k4 : (e.typ != 2) = false := by simpa using g3
          by_cases g4 : e.o.price = 0
          · have k5 : (e.o.price != 0) = false := by simpa using g4
            have hbb : Hid (b1 = false) := Lib.hid (by rw [H1.out]; rw [HD.out, Bool.false_or]; unfold rangedF; rw [if_pos g3]; exact decide_eq_false (fun h => h g4))
            clear g3 g4
            go_wp2_with fail
            go_meet
            exact ⟨by rw [hbb.out], rfl⟩
          · have k5 : (e.o.price != 0) = true := by simpa using g4
            have hbb : Hid (b1 = true) := Lib.hid (by rw [H1.out]; rw [HD.out, Bool.false_or]; unfold rangedF; rw [if_pos g3]; exact decide_eq_true g4)
            clear g3 g4
            go_wp2_with fail
            go_meet
            exact ⟨by rw [hbb.out], rfl⟩
        have k3 : (e.typ == 2) = false := by simpa using g3
        have k4 : (e.typ != 2) = true := by simpa using g3
        by_cases g4 : e.o.price < 1
        · have d4 : decide (e.o.price < 1) = true := decide_eq_true g4
          have hbb : Hid (b1 = true) := Lib.hid (by rw [H1.out]; rw [HD.out, Bool.false_or]; unfold rangedF; rw [if_neg g3]; exact decide_eq_true (by omega))
          clear g3 g4
          go_wp2_with fail
          go_meet
          exact ⟨by rw [hbb.out], rfl⟩
        have d4 : decide (e.o.price < 1) = false := decide_eq_false g4
        by_cases g5 : 1099511627776 < e.o.price
        · have d5 : decide (1099511627776 < e.o.price) = true := decide_eq_true g5
          have hbb : Hid (b1 = true) := Lib.hid (by rw [H1.out]; rw [HD.out, Bool.false_or]; unfold rangedF; rw [if_neg g3]; exact decide_eq_true (by omega))
          clear g3 g4 g5
          go_wp2_with fail
          go_meet
          exact ⟨by rw [hbb.out], rfl⟩
        have d5 : decide (1099511627776 < e.o.price) = false := decide_eq_false g5
        have hbb : Hid (b1 = false) := Lib.hid (by rw [H1.out]; rw [HD.out, Bool.false_or]; unfold rangedF; rw [if_neg g3]; exact decide_eq_false (by omega))
        clear g3 g4 g5
        go_wp2_with fail
        go_meet
        exact ⟨by rw [hbb.out], rfl⟩
      case rest =>
        obtain ⟨rfl, rfl⟩ := hcut
        cases b1 with
        | true =>
          obtain rfl : res = 9 := by rw [HRES.out]; rfl
          go_wp2_with fail
          go_ret
          exact ⟨rfl, HB.out⟩
        | false =>
          have h0 := of_decide_eq_false H0.out.symm
          have hsd : e.o.side = 0 ∨ e.o.side = 1 := by omega
          have h1 := H1.out.symm
          rw [Bool.or_eq_false_iff] at h1
          have hq := of_decide_eq_false h1.1
          have hq1 : 1 ≤ e.o.qty := by omega
          have hq2 : e.o.qty ≤ 4294967296 := by omega
          have HSQ := Lib.hid (And.intro hsd (And.intro hq1 hq2))
          have hok2 : ∀ o ∈ L, 0 ≤ o.qty ∧ o.qty ≤ 9223372036854775807 := fun o ho => by have := HOK.out.2 o ho; omega
          have HF := Lib.hid (Rk.rfind_any (HQ.out.ext HB.out) e.o.id)
          have HR := Lib.hid (fun W (hW : Below w.heap.size w W) => Sw.rreaches_any (HQ.out.ext hW) e.o.side e.o.price)
          have HPL := Lib.hid (fun W (hW : Below w.heap.size w W) => rplan_any (HQ.out.ext hW) e (by omega) hok2)
          have HRS := Lib.hid (fun W (hW : Below w.heap.size w W) => rrests_any (HQ.out.ext hW) e hsd hq1 hq2 HOK.out.1 HOK.out.2)
          have HRM := Lib.hid (fun W (hW : Below w.heap.size w W) => by
            have h := Rk.rroom_any (HQ.out.ext hW) e.o.side (edgeF e)
            rwa [Rk.room_eq (by unfold Bk.sided; exact decide_eq_true hsd)] at h)
          have HED := Lib.hid (fun W => redge_any e W)
          have HPC : Hid (0 ≤ plcI e.o.id L ↔ b2 = true) := Lib.hid (by rw [H2.out]; exact Rk.plc_some)
          clear h0 h1 hq hq1 hq2 hsd hok2
          obtain ⟨pl, hpl⟩ : ∃ x, x = plcI e.o.id L := ⟨_, rfl⟩
          rw [← hpl] at HF HPC
          clear hpl
          cases b2 with
          | true =>
            obtain rfl : res = 6 := by rw [HRES.out]; rfl
            have e1 : 0 ≤ pl := HPC.out.2 rfl
            go_wp2_with (first | (go_at_call 37; refine HF.out.mono ?_; rintro x w2 ⟨rfl, rfl⟩) | fail)
            go_ret
            exact ⟨rfl, HB.out⟩
          | false =>
            have e1 : pl < 0 := by
              have := HPC.out
              by_cases h : 0 ≤ pl
              · cases this.1 h
              · omega
            clear HPC
            go_upto_region 8 with (first | (go_at_call 37; refine HF.out.mono ?_; rintro x w2 ⟨rfl, rfl⟩) | fail)
            clear HF e1
            go_cut [78] (fun v wx => v = .bool b3 ∧ Below w1.heap.size w1 wx)
            case first =>
              by_cases h5 : e.typ = 5
              · have k5 : (e.typ == 5) = true := by simpa using h5
                have hb3 : b3 = rchO e.o.side e.o.price L := by rw [H3.out, decide_eq_true h5, Bool.true_and]
                have HR1 := HR.out _ HB.out
                rw [← hb3] at HR1
                have HR2 := Lib.hid HR1
                clear h5 hb3 HR1
                go_wp2_with (first | (go_at_call 38; refine HR2.out.mono ?_; rintro x w2 ⟨rfl, hb2⟩) | fail)
                go_meet
                exact ⟨rfl, hb2⟩
              · have k5 : (e.typ == 5) = false := by simpa using h5
                have hb3 : Hid (b3 = false) := Lib.hid (by rw [H3.out, decide_eq_false h5, Bool.false_and])
                clear h5
                go_wp2_with fail
                go_meet
                exact ⟨by rw [hb3.out], Below.refl _ _⟩
            case rest =>
              obtain ⟨rfl, hb2⟩ := hcut
              have HB2 := Lib.hid (below_ext HB.out hb2)
              cases b3 with
              | true =>
                obtain rfl : res = 12 := by rw [HRES.out]; rfl
                go_wp2_with fail
                go_ret
                exact ⟨rfl, HB2.out⟩
              | false =>
                have hEc := HE.out.1.ext hb2
                have t7c : wc.cell? ⟨w.heap.size, 7, none⟩ = some (.int .i64 e.typ) := hEc.cell 7
                clear t7 o0 o2 o3 o4
                go_upto_region 10 with fail
                go_cut [88] (fun v wx => v = .bool b4 ∧ Below wc.heap.size wc wx)
                case first =>
                  by_cases h5 : e.typ = 4
                  · have k5 : (e.typ == 4) = true := by simpa using h5
                    have hb4 : b4 = decide (0 < (mkP (tkE e) L).2.1) := by rw [H4.out, decide_eq_true h5, Bool.true_and]
                    have HPL1 := Lib.hid (HPL.out _ HB2.out)
                    generalize mkP (tkE e) L = p at *
                    obtain ⟨fs, left, stop⟩ := p
                    have d4 := hb4.symm
                    simp only at d4
                    clear h5 hb4
                    go_wp2_with (first | ((with_reducible show wpList _ _ _ (⟨_, .load 43 _, _, _, _, _⟩ :: _) _ _); refine wpList_load_ho 43 _ (by rfl) (by rfl) ?_ (.pointer (some ⟨_, 0, none⟩)) (by rfl) ?_ _ Tryz.underlying43 rfl ?_ ?_; rotate_left; (next => (repeat (first | (with_reducible refine BlkAt.new _ _ _ _ ?_; ((try simp) <;> omega)) | (with_reducible assumption) | (with_reducible refine Blk.at (t := ?_) ?_; rotate_left; with_reducible assumption) | with_reducible refine BlkAt.alloc ?_ _ | with_reducible refine BlkAt.drew ?_ | (with_reducible refine BlkAt.setSame ?_ _ _) | (with_reducible refine BlkAt.setCell ?_ ?_ _; rotate_left; ((try simp) <;> omega)) | (with_reducible refine BlkAt.ext (w := ?_) ?_ ?_; rotate_left 2; (with_reducible assumption)) | fail))); (next => kernel_rfl)) | (go_at_call 39; refine HPL1.out.mono ?_; rintro x w3 ⟨⟨v, rfl, hown3⟩, hb3⟩; obtain ⟨A3, cp3, rfl, _, _, _, _⟩ := owns_rfl hown3; clear hown3) | ((with_reducible show wpList _ _ _ (⟨_, .field _ _ _, _, _, _, _⟩ :: _) _ _); refine wpList_run (v := .int .i64 left) (by rfl) (by go_simp; first | done | rfl) ?_) | fail)
                    go_meet
                    exact ⟨rfl, hb3⟩
                  · have k5 : (e.typ == 4) = false := by simpa using h5
                    have hb4 : Hid (b4 = false) := Lib.hid (by rw [H4.out, decide_eq_false h5, Bool.false_and])
                    clear h5
                    go_wp2_with fail
                    go_meet
                    exact ⟨by rw [hb4.out], Below.refl _ _⟩
                case rest =>
                  obtain ⟨rfl, hb3⟩ := hcut
                  have HB3 := Lib.hid (below_ext HB2.out hb3)
                  have hEd := hEc.ext hb3
                  have hOd := (HE.out.2.ext hb2).ext hb3
                  cases b4 with
                  | true =>
                    obtain rfl : res = 13 := by rw [HRES.out]; rfl
                    go_wp2_with fail
                    go_ret
                    exact ⟨rfl, HB3.out⟩
                  | false =>
                    obtain ⟨rr, hrr⟩ : ∃ x, x = restsF L e (mkP (tkE e) L) := ⟨_, rfl⟩
                    obtain ⟨ro, hro⟩ : ∃ x, x = roomO N most e.o.side (edgeF e) L := ⟨_, rfl⟩
                    have HRS1 : Hid (∀ W, Below wc.heap.size wc W → _) := Lib.hid (fun W hW => HRS.out W (below_ext HB3.out hW))
                    have HRM1 : Hid (∀ W, Below wc.heap.size wc W → _) := Lib.hid (fun W hW => HRM.out W (below_ext HB3.out hW))
                    rw [← hrr] at HRS1
                    rw [← hro] at HRM1
                    have h5 := H5.out
                    rw [← hrr, ← hro] at h5
                    have HH5 := Lib.hid h5
                    have t2d : wc.cell? ⟨ob, 2, none⟩ = some (.int .i64 e.o.side) := hOd.cell 2
                    clear hrr hro h5 HRS HRM H5 hEc t7c hb2 hb3 HPL HR
                    generalize edgeF e = ed at *
                    cases rr with
                    | false =>
                      obtain rfl : b5 = false := HH5.out
                      obtain rfl : res = 0 := by rw [HRES.out]; rfl
                      go_wp2_with fail
                      refine wp_region_below_lit (by kernel_rfl) (by kernel_rfl) ?_
                      repeat (first | go_big_quiet_skip | (go_big_quiet_want; go_big_quiet_op; go_big_quiet_on) | (refine q_load_blk (by rfl) 43 _ (by rfl) ?_ (.pointer (some ⟨_, 0, none⟩)) (by rfl) ?_ _ (fun _ h => h) Tryz.underlying43 rfl ?_ ?_; rotate_left; (next => (repeat (first | (with_reducible refine BlkAt.new _ _ _ _ ?_; ((try simp) <;> omega)) | (with_reducible assumption) | (with_reducible refine Blk.at (t := ?_) ?_; rotate_left; with_reducible assumption) | with_reducible refine BlkAt.alloc ?_ _ | with_reducible refine BlkAt.drew ?_ | (with_reducible refine BlkAt.setSame ?_ _ _) | (with_reducible refine BlkAt.setCell ?_ ?_ _; rotate_left; ((try simp) <;> omega)) | (with_reducible refine BlkAt.ext (w := ?_) ?_ ?_; rotate_left 2; (with_reducible assumption)) | fail))); (next => kernel_rfl); (try simp only [Act.put, List.setIfInBounds_toArray, List.set_cons_zero, List.set_cons_succ])) | (refine q_load_fld (by rfl) _ _ (by rfl) (fun _ h => h) _ _ (by rfl) ?_ ?_ ?_ ?_ ?_ ?_; rotate_left; (next => (repeat (first | (with_reducible refine BlkAt.new _ _ _ _ ?_; ((try simp) <;> omega)) | (with_reducible assumption) | (with_reducible refine Blk.at (t := ?_) ?_; rotate_left; with_reducible assumption) | with_reducible refine BlkAt.alloc ?_ _ | with_reducible refine BlkAt.drew ?_ | (with_reducible refine BlkAt.setSame ?_ _ _) | (with_reducible refine BlkAt.setCell ?_ ?_ _; rotate_left; ((try simp) <;> omega)) | (with_reducible refine BlkAt.ext (w := ?_) ?_ ?_; rotate_left 2; (with_reducible assumption)) | fail))); rotate_left; (next => first | (simp only [go_sem]; rfl) | rfl); (next => kernel_rfl); (try simp only [Act.put, List.setIfInBounds_toArray, List.set_cons_zero, List.set_cons_succ])) | (refine q_rem (by rfl) _ _ _ _ (by rfl) _ _ (by rfl) (by rfl) (by kernel_rfl) (by kernel_rfl) ?_ ?_; (next => omega); (try simp only [Act.put, List.setIfInBounds_toArray, List.set_cons_zero, List.set_cons_succ])) | (refine q_step_ex (by rfl) ?_; apply Exists.intro; refine ⟨fun W hW => ?_, ?_⟩; (next => (have hWc := fun (b o : Nat) (h : b < _) => (Ext.out hW).cell (p := ⟨b, o, none⟩) h); (try have hLK := HLK.out W (Ext.out hW)); go_simp; first | rfl | (go_at_call 40; refine (HRS1.out _ hW.out).mono ?_; rintro x w'' ⟨rfl, hb2⟩; exact ⟨rfl, below_ext hW.out hb2⟩) | fail); (try simp only [Act.put, List.setIfInBounds_toArray, List.set_cons_zero, List.set_cons_succ])) | fail)
                      refine wpQuiet_nil ?_
                      intro w8 hb8
                      go_wp2_with fail
                      go_ret
                      exact ⟨rfl, below_ext HB3.out hb8⟩
                    | true =>
                      cases ro with
                      | false =>
                        obtain rfl : b5 = true := HH5.out
                        obtain rfl : res = 7 := by rw [HRES.out]; rfl
                        go_wp2_with fail
                        refine wp_region_below_lit (by kernel_rfl) (by kernel_rfl) ?_
                        repeat (first | go_big_quiet_skip | (go_big_quiet_want; go_big_quiet_op; go_big_quiet_on) | (refine q_load_blk (by rfl) 43 _ (by rfl) ?_ (.pointer (some ⟨_, 0, none⟩)) (by rfl) ?_ _ (fun _ h => h) Tryz.underlying43 rfl ?_ ?_; rotate_left; (next => (repeat (first | (with_reducible refine BlkAt.new _ _ _ _ ?_; ((try simp) <;> omega)) | (with_reducible assumption) | (with_reducible refine Blk.at (t := ?_) ?_; rotate_left; with_reducible assumption) | with_reducible refine BlkAt.alloc ?_ _ | with_reducible refine BlkAt.drew ?_ | (with_reducible refine BlkAt.setSame ?_ _ _) | (with_reducible refine BlkAt.setCell ?_ ?_ _; rotate_left; ((try simp) <;> omega)) | (with_reducible refine BlkAt.ext (w := ?_) ?_ ?_; rotate_left 2; (with_reducible assumption)) | fail))); (next => kernel_rfl); (try simp only [Act.put, List.setIfInBounds_toArray, List.set_cons_zero, List.set_cons_succ])) | (refine q_load_fld (by rfl) _ _ (by rfl) (fun _ h => h) _ _ (by rfl) ?_ ?_ ?_ ?_ ?_ ?_; rotate_left; (next => (repeat (first | (with_reducible refine BlkAt.new _ _ _ _ ?_; ((try simp) <;> omega)) | (with_reducible assumption) | (with_reducible refine Blk.at (t := ?_) ?_; rotate_left; with_reducible assumption) | with_reducible refine BlkAt.alloc ?_ _ | with_reducible refine BlkAt.drew ?_ | (with_reducible refine BlkAt.setSame ?_ _ _) | (with_reducible refine BlkAt.setCell ?_ ?_ _; rotate_left; ((try simp) <;> omega)) | (with_reducible refine BlkAt.ext (w := ?_) ?_ ?_; rotate_left 2; (with_reducible assumption)) | fail))); rotate_left; (next => first | (simp only [go_sem]; rfl) | rfl); (next => kernel_rfl); (try simp only [Act.put, List.setIfInBounds_toArray, List.set_cons_zero, List.set_cons_succ])) | (refine q_rem (by rfl) _ _ _ _ (by rfl) _ _ (by rfl) (by rfl) (by kernel_rfl) (by kernel_rfl) ?_ ?_; (next => omega); (try simp only [Act.put, List.setIfInBounds_toArray, List.set_cons_zero, List.set_cons_succ])) | (refine q_step_ex (by rfl) ?_; apply Exists.intro; refine ⟨fun W hW => ?_, ?_⟩; (next => (have hWc := fun (b o : Nat) (h : b < _) => (Ext.out hW).cell (p := ⟨b, o, none⟩) h); (try have hLK := HLK.out W (Ext.out hW)); go_simp; first | rfl | (go_at_call 40; refine (HRS1.out _ hW.out).mono ?_; rintro x w'' ⟨rfl, hb2⟩; exact ⟨rfl, below_ext hW.out hb2⟩) | (go_at_call 42; refine (HED.out _).mono ?_; rintro x w'' ⟨rfl, hb2⟩; exact ⟨rfl, below_ext hW.out hb2⟩) | (go_at_call 41; refine (HRM1.out _ hW.out).mono ?_; rintro x w'' ⟨rfl, hb2⟩; exact ⟨rfl, below_ext hW.out hb2⟩) | fail); (try simp only [Act.put, List.setIfInBounds_toArray, List.set_cons_zero, List.set_cons_succ])) | fail)
                        refine wpQuiet_nil ?_
                        intro w8 hb8
                        go_wp2_with fail
                        go_ret
                        exact ⟨rfl, below_ext HB3.out hb8⟩
                      | true =>
                        obtain rfl : b5 = false := HH5.out
                        obtain rfl : res = 0 := by rw [HRES.out]; rfl
                        go_wp2_with fail
                        refine wp_region_below_lit (by kernel_rfl) (by kernel_rfl) ?_
                        repeat (first | go_big_quiet_skip | (go_big_quiet_want; go_big_quiet_op; go_big_quiet_on) | (refine q_load_blk (by rfl) 43 _ (by rfl) ?_ (.pointer (some ⟨_, 0, none⟩)) (by rfl) ?_ _ (fun _ h => h) Tryz.underlying43 rfl ?_ ?_; rotate_left; (next => (repeat (first | (with_reducible refine BlkAt.new _ _ _ _ ?_; ((try simp) <;> omega)) | (with_reducible assumption) | (with_reducible refine Blk.at (t := ?_) ?_; rotate_left; with_reducible assumption) | with_reducible refine BlkAt.alloc ?_ _ | with_reducible refine BlkAt.drew ?_ | (with_reducible refine BlkAt.setSame ?_ _ _) | (with_reducible refine BlkAt.setCell ?_ ?_ _; rotate_left; ((try simp) <;> omega)) | (with_reducible refine BlkAt.ext (w := ?_) ?_ ?_; rotate_left 2; (with_reducible assumption)) | fail))); (next => kernel_rfl); (try simp only [Act.put, List.setIfInBounds_toArray, List.set_cons_zero, List.set_cons_succ])) | (refine q_load_fld (by rfl) _ _ (by rfl) (fun _ h => h) _ _ (by rfl) ?_ ?_ ?_ ?_ ?_ ?_; rotate_left; (next => (repeat (first | (with_reducible refine BlkAt.new _ _ _ _ ?_; ((try simp) <;> omega)) | (with_reducible assumption) | (with_reducible refine Blk.at (t := ?_) ?_; rotate_left; with_reducible assumption) | with_reducible refine BlkAt.alloc ?_ _ | with_reducible refine BlkAt.drew ?_ | (with_reducible refine BlkAt.setSame ?_ _ _) | (with_reducible refine BlkAt.setCell ?_ ?_ _; rotate_left; ((try simp) <;> omega)) | (with_reducible refine BlkAt.ext (w := ?_) ?_ ?_; rotate_left 2; (with_reducible assumption)) | fail))); rotate_left; (next => first | (simp only [go_sem]; rfl) | rfl); (next => kernel_rfl); (try simp only [Act.put, List.setIfInBounds_toArray, List.set_cons_zero, List.set_cons_succ])) | (refine q_rem (by rfl) _ _ _ _ (by rfl) _ _ (by rfl) (by rfl) (by kernel_rfl) (by kernel_rfl) ?_ ?_; (next => omega); (try simp only [Act.put, List.setIfInBounds_toArray, List.set_cons_zero, List.set_cons_succ])) | (refine q_step_ex (by rfl) ?_; apply Exists.intro; refine ⟨fun W hW => ?_, ?_⟩; (next => (have hWc := fun (b o : Nat) (h : b < _) => (Ext.out hW).cell (p := ⟨b, o, none⟩) h); (try have hLK := HLK.out W (Ext.out hW)); go_simp; first | rfl | (go_at_call 40; refine (HRS1.out _ hW.out).mono ?_; rintro x w'' ⟨rfl, hb2⟩; exact ⟨rfl, below_ext hW.out hb2⟩) | (go_at_call 42; refine (HED.out _).mono ?_; rintro x w'' ⟨rfl, hb2⟩; exact ⟨rfl, below_ext hW.out hb2⟩) | (go_at_call 41; refine (HRM1.out _ hW.out).mono ?_; rintro x w'' ⟨rfl, hb2⟩; exact ⟨rfl, below_ext hW.out hb2⟩) | fail); (try simp only [Act.put, List.setIfInBounds_toArray, List.set_cons_zero, List.set_cons_succ])) | fail)
                        refine wpQuiet_nil ?_
                        intro w8 hb8
                        go_wp2_with fail
                        go_ret
                        exact ⟨rfl, below_ext HB3.out hb8⟩
end
end Mr
end Go.Proofs.YtbnappiaomiciaaGreat
namespace Go.Proofs.YtbnappiaomiciaaGreat
set_option linter.unusedVariables false
open Go.RowKit
namespace Mr
set_option maxHeartbeats 8000000
set_option maxRecDepth 10000
open Bk (fndI roomO addO addF)
open Sw (Fl mkP appF)
open Rk (Rb)
open Ma (En Rs tkE edgeF restsF checkF enterF restO whyF staysF resArr res_one)
theorem results_rres {fn : Func} {p : Tmp} (h : fn.results = #[.cell p 48]) (tmps : Array Value) (w : World) (g : Nat) (cs : Array Value) (hp : tmps.getD p undef = .pointer (some ⟨g, 0, none⟩)) (hb : Blk w g 48 cs) (h3 : cs.size = 11) :
    (results fn tmps).run Tryz.prog w = .ok (.agg cs) w :=
  results_cell_row h _ _ _ _ _ _ _ hp hb Tryz.underlying48 rfl (by rw [h3]; kernel_rfl)
theorem built_rf (f : Int) : Tryz.prog.built 48 [(0, .int .i64 f)] = some (resArr f (.slice none 0 0) Are.ord0 0 0) := by kernel_rfl
theorem built_rs (A : Option Addr) (n c : Nat) : Tryz.prog.built 48 [(1, .slice A n c)] = some (resArr 0 (.slice A n c) Are.ord0 0 0) := by kernel_rfl
def RnPost (w : World) (rb N most : Nat) (A : Option Addr) (r : Rs × List Ord) (x : Ending) (w' : World) : Prop :=
  ∃ A1 cp1 A' cap', x = .returned (.agg (resArr r.1.fault (.slice A1 r.1.fills.length cp1) r.1.rest r.1.gone r.1.why)) ∧ Rd w' 4 A1 (r.1.fills.map Fl.cells) ∧ (∀ a, A1 = some a → w.heap.size ≤ a.block ∧ a.block < w'.heap.size) ∧ Rb w' rb (N : Int) (most : Int) r.2 A' cap' ∧ (∀ a, A' = some a → w.heap.size ≤ a.block ∨ A = some a) ∧ ButL [rb] w.heap.size w w'
section
variable {w : World} {rb N most : Nat} {L : List Ord} {A : Option Addr} {cap : Nat}
theorem renter_bad (q : Rb w rb (N : Int) (most : Int) L A cap) (e : En) (hn : (L.map (·.id)).Nodup) (hok : ∀ o ∈ L, 1 ≤ o.qty ∧ o.qty ≤ 4294967296) (hc : checkF N most L e ≠ 0) : Calls Tryz.prog 13 #[.pointer (some ⟨rb, 0, none⟩), .agg e.arr] w (RnPost w rb N most A (enterF N most L e)) := by
  have hE0 : Blk ((w.alloc (.cells e.arr 43)).alloc (.cells (resArr 0 (.slice none 0 0) Are.ord0 0 0) 48)) w.heap.size 43 e.arr := (Blk.new w _ _ _ rfl).alloc _
  have hR0 : Blk ((w.alloc (.cells e.arr 43)).alloc (.cells (resArr 0 (.slice none 0 0) Are.ord0 0 0) 48)) (w.heap.size + 1) 48 (resArr 0 (.slice none 0 0) Are.ord0 0 0) := Blk.new _ _ _ _ (sz_alloc _ _)
  have hb0 : Below w.heap.size w ((w.alloc (.cells e.arr 43)).alloc (.cells (resArr 0 (.slice none 0 0) Are.ord0 0 0) 48)) := by (repeat (first | with_reducible exact Below.refl _ _ | (with_reducible assumption) | (with_reducible refine below_alloc ?_ _) | (with_reducible refine below_ext (w1 := ?_) ?_ ?_; rotate_left 2; (with_reducible assumption)) | (with_reducible refine Below.setCell ?_ ?_ _; rotate_left; ((try simp) <;> omega)) | (with_reducible refine Below.drew ?_) | (with_reducible refine below_drewN ?_ _) | fail))
  have hr : enterF N most L e = (⟨checkF N most L e, [], Are.ord0, 0, 0⟩, L) := by unfold enterF; rw [if_pos hc]
  have HC := Lib.hid (rcheck_any (q.ext hb0) e hn hok)
  have HQ := Lib.hid q
  rw [hr]
  clear hr q hn hok
  generalize checkF N most L e = f at *
  have k0 : (f != 0) = true := by simpa using hc
  clear hc
  go_enter Tryz.func13, Tryz.ntmps13
  go_wp2_with (first | ((with_reducible show wpList _ _ _ (⟨_, .load 43 _, _, _, _, _⟩ :: _) _ _); refine wpList_load_ho 43 _ (by rfl) (by rfl) ?_ (.pointer (some ⟨_, 0, none⟩)) (by rfl) ?_ _ Tryz.underlying43 rfl ?_ ?_; rotate_left; (next => (repeat (first | (with_reducible refine BlkAt.new _ _ _ _ ?_; ((try simp) <;> omega)) | (with_reducible assumption) | (with_reducible refine Blk.at (t := ?_) ?_; rotate_left; with_reducible assumption) | with_reducible refine BlkAt.alloc ?_ _ | with_reducible refine BlkAt.drew ?_ | (with_reducible refine BlkAt.setSame ?_ _ _) | (with_reducible refine BlkAt.setCell ?_ ?_ _; rotate_left; ((try simp) <;> omega)) | (with_reducible refine BlkAt.ext (w := ?_) ?_ ?_; rotate_left 2; (with_reducible assumption)) | fail))); (next => kernel_rfl)) | (go_at_call 10; refine HC.out.mono ?_; rintro x w1 ⟨rfl, hb1⟩; have hR1 := hR0.ext hb1) | ((with_reducible show wpList _ _ _ (⟨_, .build _ _, _, _, _, _⟩ :: _) _ _); refine wpList_build_is (by rfl) _ _ (by rfl) ?_ ?_ ?_; rotate_left; (next => simp only [List.map_toArray, List.map_cons, List.map_nil, go_sem]; exact built_rf ..)) | ((with_reducible show wpList _ _ _ (⟨_, .store 48 _ _, _, _, _, _⟩ :: _) _ _); refine wpList_store_blk (by rfl) 48 _ _ (by rfl) _ _ (by rfl) (by rfl) _ _ hR1 (by kernel_rfl) (by rfl) ?_ ?_; (next => exact res_one ..); intro w3 hR3 hU3) | fail)
  have hb3 := below_upd (below_ext hb0 hb1) (by omega) hU3
  exact bodyPost_ret (results_rres rfl _ _ _ _ (by rfl) hR3 rfl) rfl ⟨none, 0, A, cap, rfl, fun h => absurd rfl h, (fun a h => by cases h), HQ.out.ext hb3, fun a h => .inr h, ButL.of_below hb3⟩
/-- What is held when the plan is applied. -/
structure Ef (w W : World) (rb N most : Nat) (A A' : Option Addr) (cap' : Nat) (fs : List Fl) (A2 : Option Addr) (os' : List Ord) : Prop where
  bk : Rb W rb (N : Int) (most : Int) os' A' cap'
  far1 : ∀ a, A' = some a → w.heap.size ≤ a.block ∨ A = some a
  but : ButL [rb] w.heap.size w W
  rd : Rd W 4 A2 (fs.map Fl.cells)
  far : ∀ a, A2 = some a → w.heap.size ≤ a.block ∧ a.block < W.heap.size
theorem Ef.ext {w W W' : World} {rb N most : Nat} {A A' : Option Addr} {cap' : Nat} {fs : List Fl} {A2 : Option Addr} {os' : List Ord} (h : Ef w W rb N most A A' cap' fs A2 os') (hb : Below W.heap.size W W') : Ef w W' rb N most A A' cap' fs A2 os' :=
  ⟨h.bk.ext hb, h.far1, h.but.ext h.but.size hb, h.rd.below hb, fun a e => by have := h.far a e; have := hb.size; omega⟩
theorem Ef.upd {w W W' : World} {rb N most : Nat} {A A' : Option Addr} {cap' : Nat} {fs : List Fl} {A2 : Option Addr} {os' : List Ord} {g : Nat} (h : Ef w W rb N most A A' cap' fs A2 os') (u : Upd g W W') (hg : w.heap.size ≤ g) (hr : g ≠ rb) (h1 : ∀ a, A' = some a → a.block ≠ g) (h2 : ∀ a, A2 = some a → a.block ≠ g) : Ef w W' rb N most A A' cap' fs A2 os' :=
  ⟨h.bk.keep (by rw [u.size]; exact Nat.le_refl _) (u.block _ (Ne.symm hr)) (fun a e => u.block _ (h1 a e)), h.far1, ⟨u.os.trans h.but.os, u.tape.trans h.but.tape, u.output.trans h.but.output, by rw [u.size]; exact h.but.size, fun i hi hn => (u.block i (by omega)).trans (h.but.block i hi hn)⟩, h.rd.keep (fun a e => u.block _ (h2 a e)), fun a e => by rw [u.size]; exact h.far a e⟩
theorem renter_ok (q : Rb w rb (N : Int) (most : Int) L A cap) (e : En) (hn : (L.map (·.id)).Nodup) (hok : ∀ o ∈ L, 1 ≤ o.qty ∧ o.qty ≤ 4294967296) (hL : L.length ≤ 900) (hc : checkF N most L e = 0) : Calls Tryz.prog 13 #[.pointer (some ⟨rb, 0, none⟩), .agg e.arr] w (RnPost w rb N most A (enterF N most L e)) := by
  have hE0 : Blk ((w.alloc (.cells e.arr 43)).alloc (.cells (resArr 0 (.slice none 0 0) Are.ord0 0 0) 48)) w.heap.size 43 e.arr := (Blk.new w _ _ _ rfl).alloc _
  have hR0 : Blk ((w.alloc (.cells e.arr 43)).alloc (.cells (resArr 0 (.slice none 0 0) Are.ord0 0 0) 48)) (w.heap.size + 1) 48 (resArr 0 (.slice none 0 0) Are.ord0 0 0) := Blk.new _ _ _ _ (sz_alloc _ _)
  have hb0 : Below w.heap.size w ((w.alloc (.cells e.arr 43)).alloc (.cells (resArr 0 (.slice none 0 0) Are.ord0 0 0) 48)) := by (repeat (first | with_reducible exact Below.refl _ _ | (with_reducible assumption) | (with_reducible refine below_alloc ?_ _) | (with_reducible refine below_ext (w1 := ?_) ?_ ?_; rotate_left 2; (with_reducible assumption)) | (with_reducible refine Below.setCell ?_ ?_ _; rotate_left; ((try simp) <;> omega)) | (with_reducible refine Below.drew ?_) | (with_reducible refine below_drewN ?_ _) | fail))
  have hz0 : ((w.alloc (.cells e.arr 43)).alloc (.cells (resArr 0 (.slice none 0 0) Are.ord0 0 0) 48)).heap.size = w.heap.size + 1 + 1 := by simp only [sz_alloc]
  have G := Ma.good hc
  have GG := Ma.plan_goes G.side G.qty.1 (fun o ho => (hok o ho).1) hn
  have hA0 : (appF (mkP (tkE e) L).1 L).1 = 0 := Sw.app_ok _ _ _ GG.len (fun i h1 h2 => ⟨(GG.ok i h1 h2).1, (GG.ok i h1 h2).2.1, (GG.ok i h1 h2).2.2.1⟩) GG.ids GG.fnd
  have hfl : (mkP (tkE e) L).1.length ≤ 1000 := Nat.le_trans (Ma.mkP_len _ _) q.len
  have hcnt : (appF (mkP (tkE e) L).1 L).2.length < 1000 := by have := GG.count; omega
  have hr : enterF N most L e = if restsF L e (mkP (tkE e) L) = true then (⟨0, (mkP (tkE e) L).1, restO e (mkP (tkE e) L).2.1, 0, 0⟩, addO N most (appF (mkP (tkE e) L).1 L).2 (restO e (mkP (tkE e) L).2.1)) else (⟨0, (mkP (tkE e) L).1, Are.ord0, (mkP (tkE e) L).2.1, whyF e (mkP (tkE e) L)⟩, (appF (mkP (tkE e) L).1 L).2) := by unfold enterF; rw [if_neg (by rw [hc]; decide)]
  have HC := rcheck_any (q.ext hb0) e hn hok
  rw [hc] at HC
  have HC := Lib.hid HC
  have HPL := Lib.hid (fun W (hW : Below w.heap.size w W) => rplan_any (q.ext hW) e (by have := G.qty; omega) (fun o ho => by have := hok o ho; omega))
  have HRS := Lib.hid (fun W (hW : Below w.heap.size w W) => rrests_any (q.ext hW) e G.side G.qty.1 G.qty.2 hn hok)
  have HAP := Lib.hid (fun (W : World) (hW : Below w.heap.size w W) (A2 : Option Addr) (cp : Nat) (hrd : Rd W 4 A2 ((mkP (tkE e) L).1.map Fl.cells)) (hA : ∀ a, A2 = some a → a.block ≠ rb ∧ a.block < W.heap.size) => rapply_ok (q.ext hW) hn (fun o ho => (hok o ho).2) hrd hA hfl hA0 (cp := cp) (mkP (tkE e) L).2.1 (mkP (tkE e) L).2.2)
  have hrl := q.hd.lt
  have HAf := Lib.hid (fun a h => (q.far a h).2)
  rw [hr]
  clear hr hc G GG hA0 hfl hL hn hok q
  obtain ⟨rr, hrr⟩ : ∃ x, x = restsF L e (mkP (tkE e) L) := ⟨_, rfl⟩
  rw [← hrr] at HRS ⊢
  clear hrr
  generalize mkP (tkE e) L = p at *
  obtain ⟨fs, left, stop⟩ := p
  simp only at hcnt HAP HPL ⊢
  obtain ⟨os', hos⟩ : ∃ x, x = (appF fs L).2 := ⟨_, rfl⟩
  rw [← hos] at hcnt HAP ⊢
  clear hos
  have HE := Lib.hid (fun W => redge_any e W)
  go_enter Tryz.func13, Tryz.ntmps13
  go_upto_region 5 with (first | ((with_reducible show wpList _ _ _ (⟨_, .load 43 _, _, _, _, _⟩ :: _) _ _); refine wpList_load_ho 43 _ (by rfl) (by rfl) ?_ (.pointer (some ⟨_, 0, none⟩)) (by rfl) ?_ _ Tryz.underlying43 rfl ?_ ?_; rotate_left; (next => (repeat (first | (with_reducible refine BlkAt.new _ _ _ _ ?_; ((try simp) <;> omega)) | (with_reducible assumption) | (with_reducible refine Blk.at (t := ?_) ?_; rotate_left; with_reducible assumption) | with_reducible refine BlkAt.alloc ?_ _ | with_reducible refine BlkAt.drew ?_ | (with_reducible refine BlkAt.setSame ?_ _ _) | (with_reducible refine BlkAt.setCell ?_ ?_ _; rotate_left; ((try simp) <;> omega)) | (with_reducible refine BlkAt.ext (w := ?_) ?_ ?_; rotate_left 2; (with_reducible assumption)) | fail))); (next => kernel_rfl)) | (go_at_call 10; refine HC.out.mono ?_; rintro x w1 ⟨rfl, hb1⟩; have hE1 := hE0.ext hb1; have hR1 := hR0.ext hb1; have hb01 := below_ext hb0 hb1) | (go_at_call 39; refine (HPL.out _ hb01).mono ?_; rintro x w2 ⟨⟨v, rfl, hown2⟩, hb2⟩; have hP2 := Blk.new w2 93 #[.slice none 0 0, .int .i64 0, .int .i64 0] _ rfl; obtain ⟨A2, cp2, rfl, hrd2, _, _, hfar2⟩ := owns_rfl hown2; have hE2 := hE1.ext hb2; have hR2 := hR1.ext hb2; have hb02 := below_ext hb01 hb2) | (((with_reducible show wpList _ _ _ (⟨_, .store 93 _ _, _, _, _, _⟩ :: _) _ _); refine wpList_store_blk (by rfl) 93 _ _ (by rfl) _ _ (by rfl) (by rfl) _ _ hP2 (by kernel_rfl) (by rfl) ?_ ?_; (next => first | (simp [Value.oneCell']; done) | (simp [Value.oneCell', Edt.cells]; done) | exact Are.ordArr_one _); intro w3 hP3 hU3); have hb23 : Below w2.heap.size w2 w3 := below_upd (by (repeat (first | with_reducible exact Below.refl _ _ | (with_reducible assumption) | (with_reducible refine below_alloc ?_ _) | (with_reducible refine below_ext (w1 := ?_) ?_ ?_; rotate_left 2; (with_reducible assumption)) | (with_reducible refine Below.setCell ?_ ?_ _; rotate_left; ((try simp) <;> omega)) | (with_reducible refine Below.drew ?_) | (with_reducible refine below_drewN ?_ _) | fail))) (Nat.le_refl _) hU3; have hE3 := hE2.ext hb23; have hR3 := hR2.ext hb23; have hrd3 := hrd2.below hb23; have hb03 := below_ext hb02 hb23; simp only [Act.put]) | fail)
  obtain ⟨pb, hpb⟩ : ∃ x, x = w2.heap.size := ⟨_, rfl⟩
  rw [← hpb] at hP3
  rw [← hpb]
  have hpbw : w.heap.size + 1 + 1 ≤ pb := by have := hb1.size; have := hb2.size; omega
  have hpb3 : pb < w3.heap.size := hP3.lt
  have hfar3 : ∀ a, A2 = some a → w.heap.size + 1 + 1 ≤ a.block ∧ a.block < pb := fun a h => by have := hfar2 a h; have := hb1.size; omega
  have H3 := Lib.hid (And.intro hb03 (And.intro hE3 (And.intro hR3 (And.intro hP3 (And.intro hrd3 hfar3)))))
  clear hE0 hR0 hb0 hE1 hR1 hb01 hP2 hrd2 hfar2 hE2 hR2 hb02 hU3 hb23 hE3 hR3 hrd3 hb03 hP3 hpb hb1 hb2 hz0 hfar3 HPL HC hown2
  have hE3 := H3.out.2.1
  have hP3 := H3.out.2.2.2.1
  have HRS3 := Lib.hid (HRS.out _ H3.out.1)
  clear HRS
  go_upto_region 6 with (first | ((with_reducible show wpList _ _ _ (⟨_, .load 43 _, _, _, _, _⟩ :: _) _ _); refine wpList_load_ho 43 _ (by rfl) (by rfl) ?_ (.pointer (some ⟨_, 0, none⟩)) (by rfl) ?_ _ Tryz.underlying43 rfl ?_ ?_; rotate_left; (next => (repeat (first | (with_reducible refine BlkAt.new _ _ _ _ ?_; ((try simp) <;> omega)) | (with_reducible assumption) | (with_reducible refine Blk.at (t := ?_) ?_; rotate_left; with_reducible assumption) | with_reducible refine BlkAt.alloc ?_ _ | with_reducible refine BlkAt.drew ?_ | (with_reducible refine BlkAt.setSame ?_ _ _) | (with_reducible refine BlkAt.setCell ?_ ?_ _; rotate_left; ((try simp) <;> omega)) | (with_reducible refine BlkAt.ext (w := ?_) ?_ ?_; rotate_left 2; (with_reducible assumption)) | fail))); (next => kernel_rfl)) | (go_at_call 40; refine HRS3.out.mono ?_; rintro x w4 ⟨rfl, hb4⟩) | fail)
  have hP4 := hP3.ext hb4
  have HAP4 := Lib.hid (HAP.out w4 (below_ext H3.out.1 hb4) A2 cp2 (H3.out.2.2.2.2.1.below hb4) (fun a h => by have := H3.out.2.2.2.2.2 a h; have := hb4.size; omega))
  clear hE3 hP3 HAP HRS3
  go_upto_region 7 with (first | ((with_reducible show wpList _ _ _ (⟨_, .load 93 _, _, _, _, _⟩ :: _) _ _); refine wpList_load_ho 93 _ (by rfl) (by rfl) ?_ (.pointer (some ⟨_, 0, none⟩)) (by rfl) ?_ _ Tryz.underlying93 rfl ?_ ?_; rotate_left; (next => (repeat (first | (with_reducible refine BlkAt.new _ _ _ _ ?_; ((try simp) <;> omega)) | (with_reducible assumption) | (with_reducible refine Blk.at (t := ?_) ?_; rotate_left; with_reducible assumption) | with_reducible refine BlkAt.alloc ?_ _ | with_reducible refine BlkAt.drew ?_ | (with_reducible refine BlkAt.setSame ?_ _ _) | (with_reducible refine BlkAt.setCell ?_ ?_ _; rotate_left; ((try simp) <;> omega)) | (with_reducible refine BlkAt.ext (w := ?_) ?_ ?_; rotate_left 2; (with_reducible assumption)) | fail))); (next => kernel_rfl)) | (go_at_call 45; refine HAP4.out.mono ?_; rintro x w6 ⟨rfl, ⟨A', cap', q6, hf6⟩, hu6⟩) | fail)
  have hz4 := hb4.size
  have hz6 := hu6.size
  have h3 := H3.out
  obtain ⟨h31, h32, h33, h34, h35, h36⟩ := h3
  have hE6 : Blk w6 w.heap.size 43 e.arr := (h32.ext hb4).butL hu6 (by simp; omega)
  have hR6 : Blk w6 (w.heap.size + 1) 48 (resArr 0 (.slice none 0 0) Are.ord0 0 0) := (h33.ext hb4).butL hu6 (by simp; omega)
  have hP6 := hP4.butL hu6 (by simp; omega)
  have hrd6 : Rd w6 4 A2 (fs.map Fl.cells) := (h35.below hb4).keep (fun a h => hu6.block _ (by have := h36 a h; omega) (by have := h36 a h; simp; omega))
  have F6 : Ef w w6 rb N most A A' cap' fs A2 os' := ⟨q6, fun a h => (hf6 a h).imp (fun h => by have := h31.size; omega) id, (ButL.of_below (below_ext h31 hb4)).trans (butL_le hu6 (by have := h31.size; omega)), hrd6, fun a h => by have := h36 a h; omega⟩
  have nA' : ∀ a, A' = some a → a.block ≠ w.heap.size + 1 := fun a h => by
    rcases hf6 a h with h1 | h1
    · omega
    · have := HAf.out a h1; omega
  have n2 : ∀ a, A2 = some a → a.block ≠ w.heap.size + 1 := fun a h => by have := h36 a h; omega
  have x1 : ∀ a, A' = some a → a.block ≠ w6.heap.size := fun a h => by have := (q6.far a h).2; omega
  have x2 : ∀ a, A2 = some a → a.block ≠ w6.heap.size := fun a h => by have := h36 a h; omega
  have p0 : w6.cell? ⟨pb, 0, none⟩ = some (.slice A2 fs.length cp2) := hP6.cell 0
  have hX := Blk.new w6 48 (resArr 0 (.slice none 0 0) Are.ord0 0 0) _ rfl
  have hpb6 : pb < w6.heap.size := hP6.lt
  have HF6 := Lib.hid F6
  have HN := Lib.hid (And.intro nA' (And.intro n2 (And.intro x1 x2)))
  have HK := Lib.hid (And.intro hE6 (And.intro hR6 hP6))
  clear hrd6 F6 nA' n2 x1 x2 q6 hf6 hu6 hP4 hb4 HAP4 h31 h32 h33 h34 h35 h36 H3 HAf hE6 hR6 hP6 hpb3
  have hlo : w.heap.size + 1 < w6.heap.size := HK.out.2.1.lt
  go_upto_region 8 with (first | ((with_reducible show wpList _ _ _ (⟨_, .build _ _, _, _, _, _⟩ :: _) _ _); refine wpList_build_is (by rfl) _ _ (by rfl) ?_ ?_ ?_; rotate_left; (next => simp only [List.map_toArray, List.map_cons, List.map_nil, go_sem]; exact built_rs ..)) | (((with_reducible show wpList _ _ _ (⟨_, .store 48 _ _, _, _, _, _⟩ :: _) _ _); refine wpList_store_blk (by rfl) 48 _ _ (by rfl) _ _ (by rfl) (by rfl) _ _ hX (by kernel_rfl) (by rfl) ?_ ?_; (next => exact res_one ..); intro w7 hX7 hU7); have hb67 : Below w6.heap.size w6 w7 := below_upd (by (repeat (first | with_reducible exact Below.refl _ _ | (with_reducible assumption) | (with_reducible refine below_alloc ?_ _) | (with_reducible refine below_ext (w1 := ?_) ?_ ?_; rotate_left 2; (with_reducible assumption)) | (with_reducible refine Below.setCell ?_ ?_ _; rotate_left; ((try simp) <;> omega)) | (with_reducible refine Below.drew ?_) | (with_reducible refine below_drewN ?_ _) | fail))) (Nat.le_refl _) hU7; simp only [Act.put]) | fail)
  obtain ⟨xb, hxb⟩ : ∃ x, x = w6.heap.size := ⟨_, rfl⟩
  have HF7 := Lib.hid (HF6.out.ext hb67)
  have hE7 := HK.out.1.ext hb67
  have hR7 := HK.out.2.1.ext hb67
  have hP7 := HK.out.2.2.ext hb67
  rw [← hxb] at hX7 HN hpb6 hlo
  rw [← hxb]
  clear hX hU7 hb67 hxb p0 HF6 HK
  have hxr : xb ≠ rb := by omega
  have hxe : w.heap.size ≠ xb := by omega
  have hxR : w.heap.size + 1 ≠ xb := by omega
  have hxp : pb ≠ xb := by omega
  have hRr : w.heap.size + 1 ≠ rb := by omega
  cases rr with
  | true =>
    have hm1 := (Ma.en_rng hE7).1
    go_upto_region 10 with (first | ((with_reducible show wpList _ _ _ (⟨_, .load 30 _, _, _, _, _⟩ :: _) _ _); refine wpList_load_mid (by rfl) _ _ (by rfl) _ _ (by rfl) _ _ hm1 Tryz.underlying30 rfl (by kernel_rfl) ?_) | ((with_reducible show wpList _ _ _ (⟨_, .store 30 _ _, _, _, _, _⟩ :: _) _ _); refine wpList_store_put (by rfl) _ _ _ (by rfl) _ _ _ (by rfl) (by rfl) _ _ hX7 ?_ ?_ ?_ ?_; (next => kernel_rfl); (next => exact (by decide : 2 + 7 ≤ 11)); (next => exact Are.ordArr_one e.o); intro w8 hX8 hU8; replace hX8 : Blk w8 xb 48 (resArr 0 (.slice A2 fs.length cp2) e.o 0 0) := hX8; have hE8 := hE7.upd (by omega) hU8; have hb8 : Below w7.heap.size w7 w7 := Below.refl _ _; simp only [Act.put]) | fail)
    have HF8 := Lib.hid (HF7.out.upd hU8 (by omega) hxr HN.out.2.2.1 HN.out.2.2.2)
    have hR8 := hR7.upd hxR hU8
    have hP8 := hP7.upd hxp hU8
    clear hX7 hE7 hR7 hP7 hm1 hU8 HF7
    go_upto_region 11 with (first | ((with_reducible show wpList _ _ _ (⟨_, .load 43 _, _, _, _, _⟩ :: _) _ _); refine wpList_load_ho 43 _ (by rfl) (by rfl) ?_ (.pointer (some ⟨_, 0, none⟩)) (by rfl) ?_ _ Tryz.underlying43 rfl ?_ ?_; rotate_left; (next => (repeat (first | (with_reducible refine BlkAt.new _ _ _ _ ?_; ((try simp) <;> omega)) | (with_reducible assumption) | (with_reducible refine Blk.at (t := ?_) ?_; rotate_left; with_reducible assumption) | with_reducible refine BlkAt.alloc ?_ _ | with_reducible refine BlkAt.drew ?_ | (with_reducible refine BlkAt.setSame ?_ _ _) | (with_reducible refine BlkAt.setCell ?_ ?_ _; rotate_left; ((try simp) <;> omega)) | (with_reducible refine BlkAt.ext (w := ?_) ?_ ?_; rotate_left 2; (with_reducible assumption)) | fail))); (next => kernel_rfl)) | (go_at_call 42; refine (HE.out _).mono ?_; rintro x w9 ⟨rfl, hb9⟩; have hX9 := hX8.ext hb9) | (((with_reducible show wpList _ _ _ (⟨_, .store _ _ _, _, _, _, _⟩ :: _) _ _); refine wpList_store_fld (by rfl) _ _ _ (by rfl) _ _ (by rfl) _ (by rfl) _ _ hX9 ?_ ?_ (by rfl) (by rfl) ?_; (next => first | omega | ((try simp) <;> omega)); (next => kernel_rfl); intro w10 hX10 hU10); replace hX10 : Blk w10 xb 48 (resArr 0 (.slice A2 fs.length cp2) (restO e e.o.qty) 0 0) := hX10; simp only [Act.put]) | fail)
    have HF10 := Lib.hid ((HF8.out.ext hb9).upd hU10 (by omega) hxr HN.out.2.2.1 HN.out.2.2.2)
    have hR10 := (hR8.ext hb9).upd hxR hU10
    have hP10 := (hP8.ext hb9).upd hxp hU10
    have p1 : w10.cell? ⟨pb, 1, none⟩ = some (.int .i64 left) := hP10.cell 1
    clear hX8 hE8 hR8 hP8 hX9 hU10 hb9 HF8
    go_upto_region 12 with (first | (((with_reducible show wpList _ _ _ (⟨_, .store _ _ _, _, _, _, _⟩ :: _) _ _); refine wpList_store_fld (by rfl) _ _ _ (by rfl) _ _ (by rfl) _ (by rfl) _ _ hX10 ?_ ?_ (by rfl) (by rfl) ?_; (next => first | omega | ((try simp) <;> omega)); (next => kernel_rfl); intro w11 hX11 hU11); replace hX11 : Blk w11 xb 48 (resArr 0 (.slice A2 fs.length cp2) (restO e left) 0 0) := hX11; simp only [Act.put]) | fail)
    have F11 := HF10.out.upd hU11 (by omega) hxr HN.out.2.2.1 HN.out.2.2.2
    have hR11 := hR10.upd hxR hU11
    have hmid : w11.rangeAt xb 2 (restO e left).cells := fun j v hv => by
      rw [hX11.cell]
      have hj : j < 7 := (List.getElem?_eq_some_iff.1 hv).1
      match j, hj, hv with
      | 0, _, hv | 1, _, hv | 2, _, hv | 3, _, hv | 4, _, hv | 5, _, hv | 6, _, hv => exact hv
    have HAD := Lib.hid (Rk.radd_any F11.bk (restO e left) hcnt)
    have HF11 := Lib.hid F11
    clear hX10 hR10 hP10 p1 HF10 F11 hU11
    go_upto_region 13 with (first | ((with_reducible show wpList _ _ _ (⟨_, .load 30 _, _, _, _, _⟩ :: _) _ _); refine wpList_load_mid (by rfl) _ _ (by rfl) _ _ (by rfl) _ _ hmid Tryz.underlying30 rfl (by kernel_rfl) ?_) | (go_at_call 46; refine HAD.out.mono ?_; rintro x w13 ⟨rfl, ⟨A9, cap9, q9, hf9⟩, hu9⟩) | fail)
    have hX13 := hX11.butL hu9 (by simpa using hxr)
    have hR13 := hR11.butL hu9 (by simpa using hRr)
    have HFN : Hid (∀ w14, Upd (w.heap.size + 1) w13 w14 → Rd w14 4 A2 (fs.map Fl.cells) ∧ (∀ a, A2 = some a → w.heap.size ≤ a.block ∧ a.block < w14.heap.size) ∧ Rb w14 rb (N : Int) (most : Int) (addO N most os' (restO e left)) A9 cap9 ∧ (∀ a, A9 = some a → w.heap.size ≤ a.block ∨ A = some a) ∧ ButL [rb] w.heap.size w w14) := Lib.hid (fun w14 u => by
      have f11 := HF11.out
      have hz := hu9.size
      have hz1 := f11.but.size
      have far9 : ∀ a, A9 = some a → w.heap.size ≤ a.block ∨ A = some a := fun a h => by
        rcases hf9 a h with h1 | h1
        · exact .inl (by omega)
        · exact f11.far1 a h1
      have n9 : ∀ a, A9 = some a → a.block ≠ w.heap.size + 1 := fun a h => by
        rcases hf9 a h with h1 | h1
        · have := hR11.lt; omega
        · exact HN.out.1 a h1
      have F13 : Ef w w13 rb N most A A9 cap9 fs A2 (addO N most os' (restO e left)) := ⟨q9, far9, f11.but.trans (butL_le hu9 hz1), f11.rd.keep (fun a h => hu9.block _ (f11.far a h).2 (by have := f11.far a h; simp; omega)), fun a h => by have := f11.far a h; omega⟩
      have F14 := F13.upd u (by omega) hRr n9 HN.out.2.1
      exact ⟨F14.rd, F14.far, F14.bk, F14.far1, F14.but⟩)
    clear hX11 hR11 HAD HF11 q9 hf9 hu9 hmid
    go_wp2_with (first | ((with_reducible show wpList _ _ _ (⟨_, .load 48 _, _, _, _, _⟩ :: _) _ _); refine wpList_load_ho 48 _ (by rfl) (by rfl) ?_ (.pointer (some ⟨_, 0, none⟩)) (by rfl) ?_ _ Tryz.underlying48 rfl ?_ ?_; rotate_left; (next => (repeat (first | (with_reducible refine BlkAt.new _ _ _ _ ?_; ((try simp) <;> omega)) | (with_reducible assumption) | (with_reducible refine Blk.at (t := ?_) ?_; rotate_left; with_reducible assumption) | with_reducible refine BlkAt.alloc ?_ _ | with_reducible refine BlkAt.drew ?_ | (with_reducible refine BlkAt.setSame ?_ _ _) | (with_reducible refine BlkAt.setCell ?_ ?_ _; rotate_left; ((try simp) <;> omega)) | (with_reducible refine BlkAt.ext (w := ?_) ?_ ?_; rotate_left 2; (with_reducible assumption)) | fail))); (next => kernel_rfl)) | ((with_reducible show wpList _ _ _ (⟨_, .store 48 _ _, _, _, _, _⟩ :: _) _ _); refine wpList_store_blk (by rfl) 48 _ _ (by rfl) _ _ (by rfl) (by rfl) _ _ hR13 (by kernel_rfl) (by rfl) ?_ ?_; (next => exact res_one ..); intro w14 hR14 hU14) | fail)
    obtain ⟨k1, k2, k3, k4, k5⟩ := HFN.out _ hU14
    exact bodyPost_ret (results_rres rfl _ _ _ _ (by rfl) hR14 rfl) rfl ⟨A2, cp2, A9, cap9, rfl, k1, k2, k3, k4, k5⟩
  | false =>
    have p1 : w7.cell? ⟨pb, 1, none⟩ = some (.int .i64 left) := hP7.cell 1
    go_upto_region 16 with (first | (((with_reducible show wpList _ _ _ (⟨_, .store _ _ _, _, _, _, _⟩ :: _) _ _); refine wpList_store_fld (by rfl) _ _ _ (by rfl) _ _ (by rfl) _ (by rfl) _ _ hX7 ?_ ?_ (by rfl) (by rfl) ?_; (next => first | omega | ((try simp) <;> omega)); (next => kernel_rfl); intro w8 hX8 hU8); replace hX8 : Blk w8 xb 48 (resArr 0 (.slice A2 fs.length cp2) Are.ord0 left 0) := hX8; simp only [Act.put]) | fail)
    have HF8 := Lib.hid (HF7.out.upd hU8 (by omega) hxr HN.out.2.2.1 HN.out.2.2.2)
    have hR8 := hR7.upd hxR hU8
    have hP8 := hP7.upd hxp hU8
    have hE8 := hE7.upd hxe hU8
    have p1 : w8.cell? ⟨pb, 1, none⟩ = some (.int .i64 left) := hP8.cell 1
    have p2 : w8.cell? ⟨pb, 2, none⟩ = some (.int .i64 stop) := hP8.cell 2
    have t7 : w8.cell? ⟨w.heap.size, 7, none⟩ = some (.int .i64 e.typ) := hE8.cell 7
    clear hX7 hE7 hR7 hP7 hU8 HF7 hP8 hE8
    clear hcnt HE
    by_cases h0 : left = 0
    · have HY : Hid (whyF e (fs, left, stop) = 0) := Lib.hid (by unfold whyF; rw [if_pos h0])
      have k0 : (left == 0) = true := by simpa using h0
      clear h0
      go_wp2_with (first | ((with_reducible show wpList _ _ _ (⟨_, .load 48 _, _, _, _, _⟩ :: _) _ _); refine wpList_load_ho 48 _ (by rfl) (by rfl) ?_ (.pointer (some ⟨_, 0, none⟩)) (by rfl) ?_ _ Tryz.underlying48 rfl ?_ ?_; rotate_left; (next => (repeat (first | (with_reducible refine BlkAt.new _ _ _ _ ?_; ((try simp) <;> omega)) | (with_reducible assumption) | (with_reducible refine Blk.at (t := ?_) ?_; rotate_left; with_reducible assumption) | with_reducible refine BlkAt.alloc ?_ _ | with_reducible refine BlkAt.drew ?_ | (with_reducible refine BlkAt.setSame ?_ _ _) | (with_reducible refine BlkAt.setCell ?_ ?_ _; rotate_left; ((try simp) <;> omega)) | (with_reducible refine BlkAt.ext (w := ?_) ?_ ?_; rotate_left 2; (with_reducible assumption)) | fail))); (next => kernel_rfl)) | ((with_reducible show wpList _ _ _ (⟨_, .store 48 _ _, _, _, _, _⟩ :: _) _ _); refine wpList_store_blk (by rfl) 48 _ _ (by rfl) _ _ (by rfl) (by rfl) _ _ hR8 (by kernel_rfl) (by rfl) ?_ ?_; (next => exact res_one ..); intro w14 hR14 hU14) | fail)
      have F14 := HF8.out.upd hU14 (by omega) hRr HN.out.1 HN.out.2.1
      refine bodyPost_ret (results_rres rfl _ _ _ _ (by rfl) hR14 rfl) rfl ⟨A2, cp2, A', cap', ?_, F14.rd, F14.far, F14.bk, F14.far1, F14.but⟩
      show Ending.returned (.agg (resArr 0 (.slice A2 fs.length cp2) Are.ord0 left 0)) = .returned (.agg (resArr 0 (.slice A2 fs.length cp2) Are.ord0 left (whyF e (fs, left, stop))))
      rw [HY.out]
    have k0 : (left == 0) = false := by simpa using h0
    by_cases h1 : stop = 3
    · have HY : Hid (whyF e (fs, left, stop) = 4) := Lib.hid (by unfold whyF; rw [if_neg h0, if_pos h1])
      have k1 : (stop == 3) = true := by simpa using h1
      clear h0 h1
      go_wp2_with (first | (((with_reducible show wpList _ _ _ (⟨_, .store _ _ _, _, _, _, _⟩ :: _) _ _); refine wpList_store_fld (by rfl) _ _ _ (by rfl) _ _ (by rfl) _ (by rfl) _ _ hX8 ?_ ?_ (by rfl) (by rfl) ?_; (next => first | omega | ((try simp) <;> omega)); (next => kernel_rfl); intro w9 hX9 hU9); replace hX9 : Blk w9 xb 48 (resArr 0 (.slice A2 fs.length cp2) Are.ord0 left 4) := hX9; have HF9 := Lib.hid (HF8.out.upd hU9 (by omega) hxr HN.out.2.2.1 HN.out.2.2.2); have hR9 := hR8.upd hxR hU9) | ((with_reducible show wpList _ _ _ (⟨_, .load 48 _, _, _, _, _⟩ :: _) _ _); refine wpList_load_ho 48 _ (by rfl) (by rfl) ?_ (.pointer (some ⟨_, 0, none⟩)) (by rfl) ?_ _ Tryz.underlying48 rfl ?_ ?_; rotate_left; (next => (repeat (first | (with_reducible refine BlkAt.new _ _ _ _ ?_; ((try simp) <;> omega)) | (with_reducible assumption) | (with_reducible refine Blk.at (t := ?_) ?_; rotate_left; with_reducible assumption) | with_reducible refine BlkAt.alloc ?_ _ | with_reducible refine BlkAt.drew ?_ | (with_reducible refine BlkAt.setSame ?_ _ _) | (with_reducible refine BlkAt.setCell ?_ ?_ _; rotate_left; ((try simp) <;> omega)) | (with_reducible refine BlkAt.ext (w := ?_) ?_ ?_; rotate_left 2; (with_reducible assumption)) | fail))); (next => kernel_rfl)) | ((with_reducible show wpList _ _ _ (⟨_, .store 48 _ _, _, _, _, _⟩ :: _) _ _); refine wpList_store_blk (by rfl) 48 _ _ (by rfl) _ _ (by rfl) (by rfl) _ _ hR9 (by kernel_rfl) (by rfl) ?_ ?_; (next => exact res_one ..); intro w14 hR14 hU14) | fail)
      have F14 := HF9.out.upd hU14 (by omega) hRr HN.out.1 HN.out.2.1
      refine bodyPost_ret (results_rres rfl _ _ _ _ (by rfl) hR14 rfl) rfl ⟨A2, cp2, A', cap', ?_, F14.rd, F14.far, F14.bk, F14.far1, F14.but⟩
      show Ending.returned (.agg (resArr 0 (.slice A2 fs.length cp2) Are.ord0 left 4)) = .returned (.agg (resArr 0 (.slice A2 fs.length cp2) Are.ord0 left (whyF e (fs, left, stop))))
      rw [HY.out]
    have k1 : (stop == 3) = false := by simpa using h1
    by_cases h2 : stop = 2
    · have HY : Hid (whyF e (fs, left, stop) = 3) := Lib.hid (by unfold whyF; rw [if_neg h0, if_neg h1, if_pos (.inl h2)])
      have k2 : (stop == 2) = true := by simpa using h2
      clear h0 h1 h2
      go_wp2_with (first | (((with_reducible show wpList _ _ _ (⟨_, .store _ _ _, _, _, _, _⟩ :: _) _ _); refine wpList_store_fld (by rfl) _ _ _ (by rfl) _ _ (by rfl) _ (by rfl) _ _ hX8 ?_ ?_ (by rfl) (by rfl) ?_; (next => first | omega | ((try simp) <;> omega)); (next => kernel_rfl); intro w9 hX9 hU9); replace hX9 : Blk w9 xb 48 (resArr 0 (.slice A2 fs.length cp2) Are.ord0 left 3) := hX9; have HF9 := Lib.hid (HF8.out.upd hU9 (by omega) hxr HN.out.2.2.1 HN.out.2.2.2); have hR9 := hR8.upd hxR hU9) | ((with_reducible show wpList _ _ _ (⟨_, .load 48 _, _, _, _, _⟩ :: _) _ _); refine wpList_load_ho 48 _ (by rfl) (by rfl) ?_ (.pointer (some ⟨_, 0, none⟩)) (by rfl) ?_ _ Tryz.underlying48 rfl ?_ ?_; rotate_left; (next => (repeat (first | (with_reducible refine BlkAt.new _ _ _ _ ?_; ((try simp) <;> omega)) | (with_reducible assumption) | (with_reducible refine Blk.at (t := ?_) ?_; rotate_left; with_reducible assumption) | with_reducible refine BlkAt.alloc ?_ _ | with_reducible refine BlkAt.drew ?_ | (with_reducible refine BlkAt.setSame ?_ _ _) | (with_reducible refine BlkAt.setCell ?_ ?_ _; rotate_left; ((try simp) <;> omega)) | (with_reducible refine BlkAt.ext (w := ?_) ?_ ?_; rotate_left 2; (with_reducible assumption)) | fail))); (next => kernel_rfl)) | ((with_reducible show wpList _ _ _ (⟨_, .store 48 _ _, _, _, _, _⟩ :: _) _ _); refine wpList_store_blk (by rfl) 48 _ _ (by rfl) _ _ (by rfl) (by rfl) _ _ hR9 (by kernel_rfl) (by rfl) ?_ ?_; (next => exact res_one ..); intro w14 hR14 hU14) | fail)
      have F14 := HF9.out.upd hU14 (by omega) hRr HN.out.1 HN.out.2.1
      refine bodyPost_ret (results_rres rfl _ _ _ _ (by rfl) hR14 rfl) rfl ⟨A2, cp2, A', cap', ?_, F14.rd, F14.far, F14.bk, F14.far1, F14.but⟩
      show Ending.returned (.agg (resArr 0 (.slice A2 fs.length cp2) Are.ord0 left 3)) = .returned (.agg (resArr 0 (.slice A2 fs.length cp2) Are.ord0 left (whyF e (fs, left, stop))))
      rw [HY.out]
    have k2 : (stop == 2) = false := by simpa using h2
    by_cases h3 : e.typ = 1
    · have HY : Hid (whyF e (fs, left, stop) = 3) := Lib.hid (by unfold whyF; rw [if_neg h0, if_neg h1, if_pos (.inr (by unfold staysF; exact decide_eq_true (.inl h3)))])
      have k3 : (e.typ == 1) = true := by simpa using h3
      clear h0 h1 h2 h3
      go_wp2_with (first | (((with_reducible show wpList _ _ _ (⟨_, .store _ _ _, _, _, _, _⟩ :: _) _ _); refine wpList_store_fld (by rfl) _ _ _ (by rfl) _ _ (by rfl) _ (by rfl) _ _ hX8 ?_ ?_ (by rfl) (by rfl) ?_; (next => first | omega | ((try simp) <;> omega)); (next => kernel_rfl); intro w9 hX9 hU9); replace hX9 : Blk w9 xb 48 (resArr 0 (.slice A2 fs.length cp2) Are.ord0 left 3) := hX9; have HF9 := Lib.hid (HF8.out.upd hU9 (by omega) hxr HN.out.2.2.1 HN.out.2.2.2); have hR9 := hR8.upd hxR hU9) | ((with_reducible show wpList _ _ _ (⟨_, .load 48 _, _, _, _, _⟩ :: _) _ _); refine wpList_load_ho 48 _ (by rfl) (by rfl) ?_ (.pointer (some ⟨_, 0, none⟩)) (by rfl) ?_ _ Tryz.underlying48 rfl ?_ ?_; rotate_left; (next => (repeat (first | (with_reducible refine BlkAt.new _ _ _ _ ?_; ((try simp) <;> omega)) | (with_reducible assumption) | (with_reducible refine Blk.at (t := ?_) ?_; rotate_left; with_reducible assumption) | with_reducible refine BlkAt.alloc ?_ _ | with_reducible refine BlkAt.drew ?_ | (with_reducible refine BlkAt.setSame ?_ _ _) | (with_reducible refine BlkAt.setCell ?_ ?_ _; rotate_left; ((try simp) <;> omega)) | (with_reducible refine BlkAt.ext (w := ?_) ?_ ?_; rotate_left 2; (with_reducible assumption)) | fail))); (next => kernel_rfl)) | ((with_reducible show wpList _ _ _ (⟨_, .store 48 _ _, _, _, _, _⟩ :: _) _ _); refine wpList_store_blk (by rfl) 48 _ _ (by rfl) _ _ (by rfl) (by rfl) _ _ hR9 (by kernel_rfl) (by rfl) ?_ ?_; (next => exact res_one ..); intro w14 hR14 hU14) | fail)
      have F14 := HF9.out.upd hU14 (by omega) hRr HN.out.1 HN.out.2.1
      refine bodyPost_ret (results_rres rfl _ _ _ _ (by rfl) hR14 rfl) rfl ⟨A2, cp2, A', cap', ?_, F14.rd, F14.far, F14.bk, F14.far1, F14.but⟩
      show Ending.returned (.agg (resArr 0 (.slice A2 fs.length cp2) Are.ord0 left 3)) = .returned (.agg (resArr 0 (.slice A2 fs.length cp2) Are.ord0 left (whyF e (fs, left, stop))))
      rw [HY.out]
    have k3 : (e.typ == 1) = false := by simpa using h3
    by_cases h4 : e.typ = 5
    · have HY : Hid (whyF e (fs, left, stop) = 3) := Lib.hid (by unfold whyF; rw [if_neg h0, if_neg h1, if_pos (.inr (by unfold staysF; exact decide_eq_true (.inr h4)))])
      have k4 : (e.typ == 5) = true := by simpa using h4
      clear h0 h1 h2 h3 h4
      go_wp2_with (first | (((with_reducible show wpList _ _ _ (⟨_, .store _ _ _, _, _, _, _⟩ :: _) _ _); refine wpList_store_fld (by rfl) _ _ _ (by rfl) _ _ (by rfl) _ (by rfl) _ _ hX8 ?_ ?_ (by rfl) (by rfl) ?_; (next => first | omega | ((try simp) <;> omega)); (next => kernel_rfl); intro w9 hX9 hU9); replace hX9 : Blk w9 xb 48 (resArr 0 (.slice A2 fs.length cp2) Are.ord0 left 3) := hX9; have HF9 := Lib.hid (HF8.out.upd hU9 (by omega) hxr HN.out.2.2.1 HN.out.2.2.2); have hR9 := hR8.upd hxR hU9) | ((with_reducible show wpList _ _ _ (⟨_, .load 48 _, _, _, _, _⟩ :: _) _ _); refine wpList_load_ho 48 _ (by rfl) (by rfl) ?_ (.pointer (some ⟨_, 0, none⟩)) (by rfl) ?_ _ Tryz.underlying48 rfl ?_ ?_; rotate_left; (next => (repeat (first | (with_reducible refine BlkAt.new _ _ _ _ ?_; ((try simp) <;> omega)) | (with_reducible assumption) | (with_reducible refine Blk.at (t := ?_) ?_; rotate_left; with_reducible assumption) | with_reducible refine BlkAt.alloc ?_ _ | with_reducible refine BlkAt.drew ?_ | (with_reducible refine BlkAt.setSame ?_ _ _) | (with_reducible refine BlkAt.setCell ?_ ?_ _; rotate_left; ((try simp) <;> omega)) | (with_reducible refine BlkAt.ext (w := ?_) ?_ ?_; rotate_left 2; (with_reducible assumption)) | fail))); (next => kernel_rfl)) | ((with_reducible show wpList _ _ _ (⟨_, .store 48 _ _, _, _, _, _⟩ :: _) _ _); refine wpList_store_blk (by rfl) 48 _ _ (by rfl) _ _ (by rfl) (by rfl) _ _ hR9 (by kernel_rfl) (by rfl) ?_ ?_; (next => exact res_one ..); intro w14 hR14 hU14) | fail)
      have F14 := HF9.out.upd hU14 (by omega) hRr HN.out.1 HN.out.2.1
      refine bodyPost_ret (results_rres rfl _ _ _ _ (by rfl) hR14 rfl) rfl ⟨A2, cp2, A', cap', ?_, F14.rd, F14.far, F14.bk, F14.far1, F14.but⟩
      show Ending.returned (.agg (resArr 0 (.slice A2 fs.length cp2) Are.ord0 left 3)) = .returned (.agg (resArr 0 (.slice A2 fs.length cp2) Are.ord0 left (whyF e (fs, left, stop))))
      rw [HY.out]
    · have HY : Hid (whyF e (fs, left, stop) = 2) := Lib.hid (by unfold whyF; rw [if_neg h0, if_neg h1, if_neg (fun h => h.elim h2 (fun h => by unfold staysF at h; exact (of_decide_eq_true h).elim h3 h4))])
      have k4 : (e.typ == 5) = false := by simpa using h4
      clear h0 h1 h2 h3 h4
      go_wp2_with (first | (((with_reducible show wpList _ _ _ (⟨_, .store _ _ _, _, _, _, _⟩ :: _) _ _); refine wpList_store_fld (by rfl) _ _ _ (by rfl) _ _ (by rfl) _ (by rfl) _ _ hX8 ?_ ?_ (by rfl) (by rfl) ?_; (next => first | omega | ((try simp) <;> omega)); (next => kernel_rfl); intro w9 hX9 hU9); replace hX9 : Blk w9 xb 48 (resArr 0 (.slice A2 fs.length cp2) Are.ord0 left 2) := hX9; have HF9 := Lib.hid (HF8.out.upd hU9 (by omega) hxr HN.out.2.2.1 HN.out.2.2.2); have hR9 := hR8.upd hxR hU9) | ((with_reducible show wpList _ _ _ (⟨_, .load 48 _, _, _, _, _⟩ :: _) _ _); refine wpList_load_ho 48 _ (by rfl) (by rfl) ?_ (.pointer (some ⟨_, 0, none⟩)) (by rfl) ?_ _ Tryz.underlying48 rfl ?_ ?_; rotate_left; (next => (repeat (first | (with_reducible refine BlkAt.new _ _ _ _ ?_; ((try simp) <;> omega)) | (with_reducible assumption) | (with_reducible refine Blk.at (t := ?_) ?_; rotate_left; with_reducible assumption) | with_reducible refine BlkAt.alloc ?_ _ | with_reducible refine BlkAt.drew ?_ | (with_reducible refine BlkAt.setSame ?_ _ _) | (with_reducible refine BlkAt.setCell ?_ ?_ _; rotate_left; ((try simp) <;> omega)) | (with_reducible refine BlkAt.ext (w := ?_) ?_ ?_; rotate_left 2; (with_reducible assumption)) | fail))); (next => kernel_rfl)) | ((with_reducible show wpList _ _ _ (⟨_, .store 48 _ _, _, _, _, _⟩ :: _) _ _); refine wpList_store_blk (by rfl) 48 _ _ (by rfl) _ _ (by rfl) (by rfl) _ _ hR9 (by kernel_rfl) (by rfl) ?_ ?_; (next => exact res_one ..); intro w14 hR14 hU14) | fail)
      have F14 := HF9.out.upd hU14 (by omega) hRr HN.out.1 HN.out.2.1
      refine bodyPost_ret (results_rres rfl _ _ _ _ (by rfl) hR14 rfl) rfl ⟨A2, cp2, A', cap', ?_, F14.rd, F14.far, F14.bk, F14.far1, F14.but⟩
      show Ending.returned (.agg (resArr 0 (.slice A2 fs.length cp2) Are.ord0 left 2)) = .returned (.agg (resArr 0 (.slice A2 fs.length cp2) Are.ord0 left (whyF e (fs, left, stop))))
      rw [HY.out]
theorem renter_any (q : Rb w rb (N : Int) (most : Int) L A cap) (e : En) (hn : (L.map (·.id)).Nodup) (hok : ∀ o ∈ L, 1 ≤ o.qty ∧ o.qty ≤ 4294967296) (hL : L.length ≤ 900) : Calls Tryz.prog 13 #[.pointer (some ⟨rb, 0, none⟩), .agg e.arr] w (RnPost w rb N most A (enterF N most L e)) := by
  by_cases hc : checkF N most L e = 0
  · exact renter_ok q e hn hok hL hc
  · exact renter_bad q e hn hok hc
end
end Mr
end Go.Proofs.YtbnappiaomiciaaGreat
