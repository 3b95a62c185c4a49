/- This text proves what a book's iterator hands over: a side's orders, by price and time. It has no conditions but those that it states. -/
import Derived.Test.YtacpjpkhmdcagaaGreatBkV
import Derived.Test.YtacpjpkhmdcagaaGreatBkE
import Derived.Test.YtacpjpkhmdcagaaGreatMidRd
import Derived.Test.YtacpjpkhmdcagaaGreatFree
import Derived.Scope
namespace Go.Proofs.YtacpjpkhmdcagaaGreat
set_option linter.unusedVariables false
open Go.RowKit
namespace Bk
set_option maxHeartbeats 4000000
set_option maxRecDepth 10000
attribute [local go_sem] Oper.semAt_some
open Lad (La encL Of)
open Fif (Fq Sl1)
open Are (Ar St)
theorem kc_own {β : Type} {nb : List Nat} {ts : List TypeId} {B B' : Nat} (w1 : World) (hB : B ≤ B') (hBw : B ≤ w1.heap.size) : OwnFrom B' (fun (_ : β) W => Kc nb ts B w1 W) := by
  rintro s W W' row ⟨h1, h2⟩ hg hr
  refine ⟨⟨hg.os.trans h1.os, hg.tape.trans h1.tape, hg.output.trans h1.output, Nat.le_trans h1.size hg.size, fun q hq hn => ?_⟩, fun k cs t fr hk hn ht => ?_⟩
  · have h3 := h1.block q hq hn
    rcases Nat.lt_or_ge q W.heap.size with h4 | h4
    · exact (hg.block q h4 (fun e => by have := (hr q e.symm).1; omega)).trans h3
    · have h5 : w1.heap.size ≤ q := Nat.le_trans h1.size h4
      omega
  · have h3 := h2 k cs t fr hk hn ht
    refine (hg.block k (Array.getElem?_eq_some_iff.1 h3).1 (fun e => ?_)).trans h3
    obtain ⟨_, o, ho, hc⟩ := hr k e.symm
    rw [h3] at ho
    cases ho
    cases hc
section
variable {n : Nat} {most N : Nat} {ss : List Sl} {ls : List Lvl} {u : Nat → Nat} {L : Nat → List Nat} {st : St} {fl : List Nat}
theorem lv_slots (S : SI (n : Int) most (sid n ss) ls u L) (A : AI N ss st fl) {l : Lvl} (hl : l ∈ ls) : (L l.queue.toNat).map st.o = atO (n : Int) l.price (osOf ss) := by
  rw [(S.lv l hl).list, ← atp_map, List.map_map]
  refine List.map_congr_left fun x hx => ?_
  have h1 : x ∈ ss := (List.mem_filter.1 (List.mem_filter.1 hx).1).1
  exact (A.tk x h1).2.2
theorem lv_slot (S : SI (n : Int) most (sid n ss) ls u L) (A : AI N ss st fl) {l : Lvl} (hl : l ∈ ls) {s : Nat} (hs : s ∈ L l.queue.toNat) : s < N ∧ st.nx s = -2 := by
  rw [(S.lv l hl).list] at hs
  obtain ⟨x, hx, rfl⟩ := List.mem_map.1 hs
  have h1 : x ∈ ss := (List.mem_filter.1 (List.mem_filter.1 hx).1).1
  exact ⟨(A.tk x h1).1, (A.tk x h1).2.1⟩
theorem lv_len (S : SI (n : Int) most (sid n ss) ls u L) {l : Lvl} (hl : l ∈ ls) : (L l.queue.toNat).length ≤ ss.length := by
  rw [(S.lv l hl).list, List.length_map]
  exact Nat.le_trans (List.length_filter_le _ _) (List.length_filter_le _ _)
end
/-- The orders of a side, each with the word that it is one. -/
abbrev Oo (n : Int) (os : List Ord) := {o : Ord // o ∈ srt n os}
def encO (n : Int) (os : List Ord) (x : Oo n os) : Array Value := #[.agg x.1.arr]
theorem cat_len {α β : Type} (f : α → List β) (M : Nat) : ∀ l : List α, (∀ x ∈ l, (f x).length ≤ M) → (l.flatMap f).length ≤ l.length * M
  | [], _ => by simp
  | x :: l, h => by
    rw [List.flatMap_cons, List.length_append, List.length_cons, Nat.succ_mul]
    have h1 := cat_len f M l (fun y hy => h y (by simp [hy]))
    have h2 := h x (by simp)
    omega
theorem att_flat {α β : Type} (f : α → List β) (l : List α) : (l.attach.flatMap fun x => f x.1) = l.flatMap f := by
  rw [List.flatMap_def, List.flatMap_def]
  congr 1
  exact List.attach_map_val ..
theorem slots_le {N : Nat} {ss : List Sl} {st : St} {fl : List Nat} (A : AI N ss st fl) : ss.length ≤ N := by
  have h1 : (ss.map (·.1)).length ≤ (List.range N).length := A.snd.length_le_of_subset (fun k hk => by
    obtain ⟨x, hx, rfl⟩ := List.mem_map.1 hk
    exact List.mem_range.2 (A.tk x hx).1)
  simpa using h1
theorem map_val_inj {α : Type} {p : α → Prop} {a b : List {x : α // p x}} (h : a.map (·.1) = b.map (·.1)) : a = b :=
  (List.map_inj_right (fun x y e => Subtype.ext e)).1 h
theorem sub_all {α : Type} {l : List α} {p : List {x : α // x ∈ l}} (h : p.map (·.1) = l) : p = l.attach := map_val_inj (by rw [h, List.attach_map_subtype_val])
theorem sub_prefix {α : Type} {l : List α} {p : List {x : α // x ∈ l}} (h : p.map (·.1) <+: l) : p <+: l.attach := by
  have h1 : p = l.attach.take p.length := map_val_inj (by
    rw [List.map_take, List.attach_map_subtype_val]
    have := List.prefix_iff_eq_take.1 h
    rwa [List.length_map] at this)
  rw [h1]
  exact List.take_prefix _ _
theorem cat_prefix {α β : Type} (f : α → List β) {a b : List α} (h : a <+: b) : a.flatMap f <+: b.flatMap f := by
  obtain ⟨r, rfl⟩ := h
  rw [List.flatMap_append]
  exact List.prefix_append _ _
theorem beach_stops {w : World} {c : Nat → Nat} {b N most k : Nat} {ss : List Sl} (B : Bs w c b N most k ss) {n : Nat} (hn : n < 2) (bq bi : Nat) (hq : Blk w bq 27 #[.pointer (some ⟨b, 0, none⟩)]) (hbi : Blk w bi 3 #[.int .i64 n]) (nb : List Nat) (ts : List TypeId) (hts : ∀ t ∈ ts, t ∉ [86, 96, 166, 165]) (hnb : ∀ q ∈ nb, c q = 9 ∧ q < w.heap.size) :
    SeqO Tryz.prog 79 #[.pointer (some ⟨bq, 0, none⟩), .pointer (some ⟨bi, 0, none⟩)] (encO n (osOf ss)) (Kc nb ts w.heap.size) (fun ys => ys.map (·.1) = srt n (osOf ss)) (fun pre => pre.map (·.1) <+: srt n (osOf ss)) 101000 w := by
  intro l J Jx W hW hJ hJx hY h0
  obtain ⟨d, B, I⟩ := B
  have hbl := B.lt
  obtain ⟨s0, hs0⟩ : ∃ s0, s0 = 1 + n * 2 := ⟨_, rfl⟩
  have hcl : w.cell? ⟨b, s0, none⟩ = some (.pointer (some ⟨d.l n, 0, none⟩)) ∧ w.cell? ⟨b, s0 + 1, none⟩ = some (.pointer (some ⟨d.q n, 0, none⟩)) := by
    obtain ⟨c0, c1, c2, c3, c4, c5⟩ := B.cells
    have h : n = 0 ∨ n = 1 := by omega
    rcases h with rfl | rfl
    · subst hs0; exact ⟨c1, c2⟩
    · subst hs0; exact ⟨c3, c4⟩
  obtain ⟨hcl, hcq⟩ := hcl
  have hca := B.cells.1
  have HO : Hid (∀ W, Calls Tryz.prog 45 #[.pointer (some ⟨b, 0, none⟩), .int .i64 n] W fun e w' => e = .returned (.pointer (some ⟨b, s0, none⟩)) ∧ W = w') := Lib.hid (fun W => by rw [hs0]; exact of_yes (n : Int) rfl hn)
  clear hs0
  have hb0 : Below W.heap.size W (W.alloc (.cells #[.func (.yield l) #[] #[]] 165)) := by (repeat (first | with_reducible exact Below.refl _ _ | (with_reducible assumption) | (with_reducible refine below_alloc ?_ _) | (with_reducible refine below_ext (w1 := ?_) ?_ ?_; rotate_left 2; (with_reducible assumption)) | (with_reducible refine Below.setCell ?_ ?_ _; rotate_left; ((try simp) <;> omega)) | (with_reducible refine Below.drew ?_) | (with_reducible refine below_drewN ?_ _) | fail))
  have hY0 : Blk (W.alloc (.cells #[.func (.yield l) #[] #[]] 165)) W.heap.size 165 #[.func (.yield l) #[] #[]] := Blk.new _ _ _ _ rfl
  generalize hW0 : W.alloc (.cells #[.func (.yield l) #[] #[]] 165) = w0 at hb0 hY0
  have HW0 := Lib.hid hW0
  clear hW0
  have hw0 := below_ext hW hb0
  have cq : w0.cell? ⟨bq, 0, none⟩ = some (.pointer (some ⟨b, 0, none⟩)) := (hq.ext hw0).cell 0
  have ci : w0.cell? ⟨bi, 0, none⟩ = some (.int .i64 n) := (hbi.ext hw0).cell 0
  have ca : w0.cell? ⟨b, 0, none⟩ = some (.pointer (some ⟨d.a, 0, none⟩)) := (hw0.cell (p := ⟨b, 0, none⟩) hbl).trans hca
  have cl : w0.cell? ⟨b, s0, none⟩ = some (.pointer (some ⟨d.l n, 0, none⟩)) := (hw0.cell (p := ⟨b, s0, none⟩) hbl).trans hcl
  have hql0 : bq < w0.heap.size := cell_lt cq
  have hil0 : bi < w0.heap.size := cell_lt ci
  have hbl0 : b < w0.heap.size := cell_lt ca
  have HCL := Lib.hid hcl
  have HCQ := Lib.hid hcq
  have HCA := Lib.hid hca
  clear hcl hcq hca
  show Calls _ _ (#[.func (.yield l) #[] #[], .pointer (some ⟨bq, 0, none⟩), .pointer (some ⟨bi, 0, none⟩)]) _ _
  refine calls_of_wp_marks Tryz.func79 rfl ?_
  simp only [Tryz.ntmps79, List.size_toArray, List.length_cons, List.length_nil, Nat.reduceAdd, Nat.reduceSub, Array.replicate_succ, Array.replicate_zero, List.push_toArray, List.append_toArray, List.nil_append, List.cons_append]
  go_wp2_with fail
  refine wp_scope_straight ?_
  rw [HW0.out]
  have hG : Blk ((w0.alloc (.cells #[.pointer (some ⟨b, s0, none⟩)] 96)).alloc (.cells #[.nilFunc] 166)) (w0.heap.size + 1) 166 #[.nilFunc] := Blk.new _ _ _ _ (sz_alloc _ _)
  go_wp2_with (first | (go_at_call 45; refine (HO.out _).mono ?_; rintro e w1 ⟨rfl, rfl⟩) | ((with_reducible show wpList _ _ _ (⟨_, .store 166 _ _, _, _, _, _⟩ :: _) _ _); refine wpList_store_fld (by rfl) _ _ _ (by rfl) _ _ (by rfl) _ (by rfl) _ _ (by assumption) ?_ ?_ (by rfl) (by rfl) ?_; (next => simp); (next => kernel_rfl); intro w2 hG2 hU2) | fail)
  refine wp_label ?_
  have hb02 : Below w0.heap.size w0 w2 := below_upd (by (repeat (first | with_reducible exact Below.refl _ _ | (with_reducible assumption) | (with_reducible refine below_alloc ?_ _) | (with_reducible refine below_ext (w1 := ?_) ?_ ?_; rotate_left 2; (with_reducible assumption)) | (with_reducible refine Below.setCell ?_ ?_ _; rotate_left; ((try simp) <;> omega)) | (with_reducible refine Below.drew ?_) | (with_reducible refine below_drewN ?_ _) | fail))) (by omega) hU2
  have hS2 : Blk w2 w0.heap.size 96 #[.pointer (some ⟨b, s0, none⟩)] := (hU2.block w0.heap.size (by omega)).trans ((Blk.new w0 96 _ _ rfl).alloc _)
  have hY2 := hY0.ext hb02
  have hw2 := below_ext hw0 hb02
  clear hG hU2 cq ci ca hql0 hil0 hq hbi
  have cs2 := hS2.cell 0
  have cl2 : w2.cell? ⟨b, s0, none⟩ = some (.pointer (some ⟨d.l n, 0, none⟩)) := (hb02.cell (p := ⟨b, s0, none⟩) hbl0).trans cl
  have hGG : Blk w2 (w0.heap.size + 1) 166 #[.func (.func 80) #[.pointer (some ⟨d.a, 0, none⟩)] #[]] := hG2
  clear hG2
  go_wp2_with fail
  refine (Lad.each_any _ _).mono ?_
  rintro e w3 ⟨rfl, hE3, hb3⟩
  have hS3 := hS2.ext hb3
  have hG3 := hGG.ext hb3
  have hY3 := hY2.ext hb3
  have hw3 := below_ext hw2 hb3
  have hb03 := below_ext hb0 (below_ext hb02 hb3)
  have hzW := hW.size
  have hz3 := hw3.size
  have hz0 := hb0.size
  have hz03 := hb03.size
  have hyl := hY0.lt
  clear cs2 cl2 hS2 hGG hY2 hw2 hb02 hb3 cl hw0 hY0 hb0
  have S := I.si n hn
  have A := I.ai
  have hlim := I.lim
  have hlt9 : ∀ q, c q ≠ 9 → q < w.heap.size := fun q h => Nat.lt_of_not_le fun h2 => h (B.out q h2)
  have hownV : ∀ r, (d.v n).ownBlock = some r → r ∉ nb ∧ r < w.heap.size := fun r hr => by
    have h1 := B.cv n hn r hr
    exact ⟨fun hm => by have h2 := (hnb r hm).1; omega, hlt9 r (by omega)⟩
  have hm : ∀ (x : Of (d.ls n)) (s : Sl1 (d.L n x.1.queue.toNat)), d.st.o s.1 ∈ srt (n : Int) (osOf ss) := fun x s => by
    rw [ls_srt hn S]
    refine List.mem_flatMap.2 ⟨x.1, x.2, ?_⟩
    rw [← lv_slots S A x.2]
    exact List.mem_map_of_mem s.2
  obtain ⟨oF, hoF⟩ : ∃ oF : (x : Of (d.ls n)) → Sl1 (d.L n x.1.queue.toNat) → Oo (n : Int) (osOf ss), ∀ x s, (oF x s).1 = d.st.o s.1 := ⟨fun x s => ⟨d.st.o s.1, hm x s⟩, fun _ _ => rfl⟩
  obtain ⟨catF, hcF⟩ : ∃ catF : Of (d.ls n) → List (Oo (n : Int) (osOf ss)), ∀ x, catF x = (d.L n x.1.queue.toNat).attach.map (oF x) := ⟨_, fun _ => rfl⟩
  have hcat : ((d.ls n).attach.flatMap catF).map (·.1) = srt (n : Int) (osOf ss) := by
    refine Eq.trans ?_ (ls_srt hn S).symm
    rw [List.map_flatMap]
    have h1 : ∀ x : Of (d.ls n), (catF x).map (·.1) = atO (n : Int) x.1.price (osOf ss) := fun x => by
      rw [hcF, List.map_map, ← lv_slots S A x.2]
      have h2 : ((fun y : Oo (n : Int) (osOf ss) => y.1) ∘ oF x) = fun s => d.st.o s.1 := funext fun s => hoF x s
      rw [h2]
      exact List.attach_map_val ..
    have h3 : (fun x : Of (d.ls n) => (catF x).map (·.1)) = fun x => atO (n : Int) x.1.price (osOf ss) := funext h1
    rw [h3]
    exact att_flat (fun l => atO (n : Int) l.price (osOf ss)) (d.ls n)
  have hclen : ∀ x, (catF x).length ≤ 500 := fun x => by
    rw [hcF, List.length_map, List.length_attach]
    have h1 := lv_len S x.2
    have h2 := slots_le A
    omega
  have hll : (d.ls n).length ≤ 200 := Nat.le_trans S.len hlim.2.2.2
  have hJB : ∀ B', W.heap.size ≤ B' → ∀ {β : Type} (f : β → List (Oo (n : Int) (osOf ss))), OwnFrom B' (fun b V => J (f b) V) := fun B' h β f s A C row h1 hg hr => hJ (f s) A C row h1 hg (fun q e => ⟨Nat.le_trans h (hr q e).1, (hr q e).2⟩)
  have hJg : ∀ {xs V V'}, J xs V → Below V.heap.size V V' → J xs V' := fun {xs V V'} h1 hb => hJ xs V V' none h1 ⟨hb.os, hb.tape, hb.output, hb.size, fun i hi _ => hb.block i hi⟩ (fun r e => by cases e)
  have hJ3 : J [] w3 := hJg h0 hb03
  have L3 := (B.la n hn).ext hw3
  go_wp2_with fail
  refine' wp_rangeFuncHK nb ts (B := w.heap.size) hw3.size (gf := 96) (by rfl) (enters_of Tryz.func96 (by kernel_rfl) rfl) (Lad.leach_stopsK L3 _ hE3 nb ts w.heap.size hw3.size hownV) (fun _ => rfl)
    (fun pre V => J (pre.flatMap catF) V ∧ Kc nb ts w.heap.size w3 V)
    (fun c pre V => c = .exit 0 ∧ ∃ q : List (Oo (n : Int) (osOf ss)), q <+: pre.flatMap catF ∧ Jx q V)
    ?own ?ownx ?start _ (fun x bx V => Blk V bx 156 x.1.arr ∧ w3.heap.size ≤ bx) ?bown ?assign ?body ?done ?stop
  case own => exact OwnFrom.and (hJB _ (by omega) _) (kc_own w3 (by omega) (by omega))
  case ownx =>
    rintro c pre V V' row ⟨h1, q, h2, h3⟩ hg hr
    exact ⟨h1, q, h2, hJx q V V' row h3 hg (fun r e => ⟨by have := (hr r e).1; omega, (hr r e).2⟩)⟩
  case start => exact ⟨hJ3, Kc.refl _ _ _ _⟩
  case bown =>
    rintro x bx _ V V' row ⟨h1, h2⟩ hg hr
    exact ⟨h1.own hg hr, h2⟩
  case assign =>
    intro l1 pre x V K hI hK
    obtain ⟨h1, h2⟩ := hI
    have hX0 : Blk (V.alloc (.cells Lad.lvlZ 156)) V.heap.size 156 Lad.lvlZ := Blk.new _ _ _ _ rfl
    unfold encL
    refine round_region_lit (by kernel_rfl) (fun ⟨_, _, h⟩ => h) ?_
    go_wp2_with (first | ((with_reducible show wpList _ _ _ (⟨_, .store 156 _ _, _, _, _, _⟩ :: _) _ _); refine wpList_store_blk (by rfl) 156 _ _ (by rfl) _ _ (by rfl) (by rfl) _ _ hX0 (by kernel_rfl) (by rfl) ?_ ?_; (next => simp [Value.oneCell', Lvl.arr, Lvl.cells]); intro V5 hX5 hU5) | fail)
    have hV5 : Below V.heap.size V V5 := below_upd (by (repeat (first | with_reducible exact Below.refl _ _ | (with_reducible assumption) | (with_reducible refine below_alloc ?_ _) | (with_reducible refine below_ext (w1 := ?_) ?_ ?_; rotate_left 2; (with_reducible assumption)) | (with_reducible refine Below.setCell ?_ ?_ _; rotate_left; ((try simp) <;> omega)) | (with_reducible refine Below.drew ?_) | (with_reducible refine below_drewN ?_ _) | fail))) (Nat.le_refl _) hU5
    simp only [Act.put]
    obtain ⟨bx, hbe⟩ : ∃ b, b = V.heap.size := ⟨_, rfl⟩
    rw [← hbe] at hX5 ⊢
    have hzV := h2.low.size
    exact hK bx V5 (keepsFrom_below hV5) (Kc.of_below hV5 (by omega)) ⟨hJg h1 hV5, h2.trans (Kc.of_below hV5 (by omega))⟩ ⟨hX5, by omega⟩
  case body =>
    rintro l1 pre x bx V r hl1 hr1 ⟨h1, h2⟩ ⟨hX, hbx⟩ hlen
    have hnn : ∀ q, w.heap.size ≤ q → q ∉ nb := fun q h hm => by have := (hnb q hm).2; omega
    have hbn : b ∉ nb := fun hm => by have h3 := (hnb b hm).1; rw [B.cb] at h3; cases h3
    have hKV : Kc nb ts w.heap.size w V := (Kc.of_below hw3 (Nat.le_refl _)).trans h2
    have BV := B.only9 (Only.butL hKV.low (fun q hq => (hnb q hq).1))
    have hSV := h2.blk hS3 (hnn _ (by omega)) (fun h => hts _ h (by decide))
    have hGV := h2.blk hG3 (hnn _ (by omega)) (fun h => hts _ h (by decide))
    have hYV := h2.blk hY3 (hnn _ (by omega)) (fun h => hts _ h (by decide))
    have LV := S.lv x.1 x.2
    have cS : V.cell? ⟨w0.heap.size, 0, none⟩ = some (.pointer (some ⟨b, s0, none⟩)) := hSV.cell 0
    have cQ : V.cell? ⟨b, s0 + 1, none⟩ = some (.pointer (some ⟨d.q n, 0, none⟩)) := hKV.cell HCQ.out hbn hbl
    have hqn : x.1.queue = (x.1.queue.toNat : Int) := by have := LV.q0; omega
    have cX : V.cell? ⟨bx, 3, none⟩ = some (.int .i64 x.1.queue.toNat) := by rw [← hqn]; exact hX.cell 3
    have hzV := h2.low.size
    have hbV : b < V.heap.size := cell_lt cQ
    have hsV : w0.heap.size < V.heap.size := hSV.lt
    have hxV : bx < V.heap.size := hX.lt
    obtain ⟨qi, hqi⟩ : ∃ qi, qi = x.1.queue.toNat := ⟨_, rfl⟩
    rw [← hqi] at cX
    have hqlt : qi < most := by have := LV.q0; omega
    have HQI := Lib.hid hqi
    have HQN := Lib.hid hqn
    clear hqi hqn LV
    gi_wp2_with fail
    refine rd_region_below_tail 6 (by kernel_rfl) (by kernel_rfl) (fun ⟨_, _, h⟩ => h) (by kernel_rfl) ?_
    simp only [List.take_succ_cons, List.take_zero, List.drop_succ_cons, List.drop_zero]
    skip
    repeat (first | go_big_quiet_skip | (go_big_quiet_want; go_big_quiet_op; go_big_quiet_on) | (refine q_load_fld (by rfl) _ _ (by rfl) (fun _ h => h) _ _ (by rfl) ?_ ?_ ?_ ?_ ?_ ?_; rotate_left; (next => (repeat (first | (with_reducible refine BlkAt.new _ _ _ _ ?_; ((try simp) <;> omega)) | (with_reducible assumption) | (with_reducible refine Blk.at (t := ?_) ?_; rotate_left; with_reducible assumption) | with_reducible refine BlkAt.alloc ?_ _ | with_reducible refine BlkAt.drew ?_ | (with_reducible refine BlkAt.setSame ?_ _ _) | (with_reducible refine BlkAt.setCell ?_ ?_ _; rotate_left; ((try simp) <;> omega)) | (with_reducible refine BlkAt.ext (w := ?_) ?_ ?_; rotate_left 2; (with_reducible assumption)) | fail))); rotate_left; (next => first | (simp only [go_sem]; rfl) | rfl); (next => kernel_rfl); (try simp only [Act.put, List.setIfInBounds_toArray, List.set_cons_zero, List.set_cons_succ])) | (refine q_rem (by rfl) _ _ _ _ (by rfl) _ _ (by rfl) (by rfl) (by kernel_rfl) (by kernel_rfl) ?_ ?_; (next => omega); (try simp only [Act.put, List.setIfInBounds_toArray, List.set_cons_zero, List.set_cons_succ])) | (refine q_step_ex (by rfl) ?_; apply Exists.intro; refine ⟨fun W hW => ?_, ?_⟩; (next => (have hWc := fun (b o : Nat) (h : b < _) => (Ext.out hW).cell (p := ⟨b, o, none⟩) h); (try have hLK := HLK.out W (Ext.out hW)); go_simp; first | rfl | fail | fail); (try simp only [Act.put, List.setIfInBounds_toArray, List.set_cons_zero, List.set_cons_succ])) | fail)
    refine wpQuiet_nil ?_
    intro w4 hb4
    gi_wp2_with fail
    refine ⟨trivial, CallsIn.inRound l1 (callsIn_wide.2 ?_)⟩
    refine (Fif.each_any _ _ _).mono ?_
    rintro e w5 ⟨rfl, hE5, hE6, hb5⟩
    gi_wp2_with fail
    have hE6' : Blk w5 (w4.heap.size + 1) 3 #[.int .i64 (x.1.queue.toNat : Nat)] := by rw [← HQN.out]; exact hE6
    rw [HQI.out] at hqlt
    have hbV5 : Below V.heap.size V w5 := below_ext hb4 hb5
    have hr5 : w5.heap[l1]? = some (.loop r) := (hbV5.block l1 (Array.getElem?_eq_some_iff.1 hr1).1).trans hr1
    have BV5 := BV.ext hbV5
    have hz5 := hbV5.size
    have hz4 := hb4.size
    have hcq := B.cq n hn
    have hJ5 : J (pre.flatMap catF) w5 := hJg h1 hbV5
    have hK35 : Kc nb ts w.heap.size w3 w5 := h2.trans (Kc.of_below hbV5 (by omega))
    have hKF5 : KeepsFrom w3.heap.size V w5 := keepsFrom_below hbV5
    have hc9 : ∀ q, c q ≠ 9 → q ∉ nb := fun q h hm => h (hnb q hm).1
    clear hE6 cS cQ cX hX hSV hGV hYV hsV hxV hbV
    refine' wpIn_rangeN hr5 nb ts (B := w.heap.size) (by omega) (gf := 97) (by rfl) (enters_of Tryz.func97 (by kernel_rfl) rfl) (Fif.feach_stopsK (BV5.fq n hn) x.1.queue.toNat _ _ hqlt hE5 hE6' nb ts w.heap.size (by omega) ⟨⟨hc9 _ (by rw [hcq.1]; omega), hlt9 _ (by rw [hcq.1]; omega)⟩, ⟨hc9 _ (by rw [hcq.2.1]; omega), hlt9 _ (by rw [hcq.2.1]; omega)⟩, hnn _ (by omega), fun h => hts _ h (by decide)⟩) (fun _ => rfl)
      (fun pre' V' => (J (pre.flatMap catF ++ pre'.map (oF x)) V' ∧ Kc nb ts w.heap.size w5 V') ∧ KeepsFrom w3.heap.size w5 V')
      (fun c pre' V' => c = .exit 0 ∧ Jx (pre.flatMap catF ++ pre'.map (oF x)) V' ∧ KeepsFrom w3.heap.size w5 V')
      ?own2 ?ownx2 ?start2 _ ?assign2 ?body2 ?done2 ?stop2
    case own2 => exact OwnFrom.and (OwnFrom.and (hJB _ (by omega) _) (kc_own w5 (by omega) (by omega))) (ownFrom_keepsFrom (Nat.le_refl _))
    case ownx2 =>
      rintro c pre' V' V'' row ⟨h3, h4, h5⟩ hg hr
      exact ⟨h3, hJx _ V' V'' row h4 hg (fun q e => ⟨by have := (hr q e).1; omega, (hr q e).2⟩), ownFrom_keepsFrom (β := Unit) (Nat.le_refl _) () V' V'' row h5 hg hr⟩
    case start2 => exact ⟨⟨by simpa using hJ5, Kc.refl _ _ _ _⟩, KeepsFrom.refl _ _⟩
    case assign2 =>
      intro l2 s V1 K hK
      gi_wp2_with fail
      exact hK
    case body2 =>
      rintro l2 pre' s V1 ⟨⟨h3, h4⟩, h5⟩ hlen2
      have hK1 : Kc nb ts w.heap.size w3 V1 := hK35.trans h4
      have hKw : Kc nb ts w.heap.size w V1 := (Kc.of_below hw3 (Nat.le_refl _)).trans hK1
      have B1 := B.only9 (Only.butL hKw.low (fun q hq => (hnb q hq).1))
      have hG1 := hK1.blk hG3 (hnn _ (by omega)) (fun h => hts _ h (by decide))
      have hY1 := hK1.blk hY3 (hnn _ (by omega)) (fun h => hts _ h (by decide))
      obtain ⟨hs1, hs2⟩ := lv_slot S A x.2 s.2
      have hsz := A.size
      have HA := Lib.hid (Are.get_yes d.a d.st s.1 V1 B1.ar (by omega) (by omega) hs2)
      have cG : V1.cell? ⟨w0.heap.size + 1, 0, none⟩ = some (.func (.func 80) #[.pointer (some ⟨d.a, 0, none⟩)] #[]) := hG1.cell 0
      refine wpIn_block ?_
      refine wpIn_seq ?_
      refine round_region_lit (by kernel_rfl) ?_ ?_
      (next => rintro ⟨_, _, h⟩; exact h)
      go_wp2_with (first | (go_at_call 80; refine HA.out.mono ?_; rintro e w6 ⟨rfl, hb6⟩; have hX6 := Blk.new w6 52 #[.int .i64 0, .int .i64 0, .int .i64 0, .int .i64 0, .int .i64 0, .int .i64 0, .int .i64 0] _ rfl) | ((with_reducible show wpList _ _ _ (⟨_, .store 52 _ _, _, _, _, _⟩ :: _) _ _); refine wpList_store_blk (by rfl) 52 _ _ (by rfl) _ _ (by rfl) (by rfl) _ _ hX6 (by kernel_rfl) (by rfl) ?_ ?_; (next => first | (simp [Value.oneCell']; done) | (simp [Value.oneCell']; done) | exact Are.ordArr_one _); intro w7 hX7 hU7) | fail)
      have hb67 : Below w6.heap.size w6 w7 := below_upd (by (repeat (first | with_reducible exact Below.refl _ _ | (with_reducible assumption) | (with_reducible refine below_alloc ?_ _) | (with_reducible refine below_ext (w1 := ?_) ?_ ?_; rotate_left 2; (with_reducible assumption)) | (with_reducible refine Below.setCell ?_ ?_ _; rotate_left; ((try simp) <;> omega)) | (with_reducible refine Below.drew ?_) | (with_reducible refine below_drewN ?_ _) | fail))) (Nat.le_refl _) hU7
      have hb17 := below_ext hb6 hb67
      have hz1 := h4.low.size
      have hJ7 := hJg h3 hb17
      have hY7 := hY1.ext hb17
      have cY : w7.cell? ⟨W.heap.size, 0, none⟩ = some (.func (.yield l) #[] #[]) := hY7.cell 0
      have hlen3 : (pre.flatMap catF ++ pre'.map (oF x)).length < 101000 := by
        have k1 := cat_len catF 500 pre (fun y _ => hclen y)
        have k2 := lv_len S x.2
        have k3 := slots_le A
        rw [List.length_append, List.length_map]
        omega
      obtain ⟨fn, tmps, assign, body, hy, hR⟩ := yieldAt_any (m' := 4) (hY _ (oF x s) w7 hJ7 hlen3)
      obtain ⟨ov, hov⟩ : ∃ ov, ov = d.st.o s.1 := ⟨_, rfl⟩
      have hX7' : Blk w7 w6.heap.size 52 ov.arr := by rw [hov]; exact hX7
      have hy2 : (Instr.yield l #[.agg #[.int .i64 ov.id, .int .i64 ov.owner, .int .i64 ov.side, .int .i64 ov.price, .int .i64 ov.qty, .int .i64 ov.flags, .int .i64 ov.seq]]).run Tryz.prog w7 = .ok (.round l fn tmps assign body) w7 := by
        unfold encO at hy
        rw [hoF x s, ← hov] at hy
        exact hy
      have o0 : w7.cell? ⟨w6.heap.size, 0, none⟩ = some (.int .i64 ov.id) := hX7'.cell 0
      have o1 : w7.cell? ⟨w6.heap.size, 1, none⟩ = some (.int .i64 ov.owner) := hX7'.cell 1
      have o2 : w7.cell? ⟨w6.heap.size, 2, none⟩ = some (.int .i64 ov.side) := hX7'.cell 2
      have o3 : w7.cell? ⟨w6.heap.size, 3, none⟩ = some (.int .i64 ov.price) := hX7'.cell 3
      have o4 : w7.cell? ⟨w6.heap.size, 4, none⟩ = some (.int .i64 ov.qty) := hX7'.cell 4
      have o5 : w7.cell? ⟨w6.heap.size, 5, none⟩ = some (.int .i64 ov.flags) := hX7'.cell 5
      have o6 : w7.cell? ⟨w6.heap.size, 6, none⟩ = some (.int .i64 ov.seq) := hX7'.cell 6
      clear hX7 hX7' hov
      clear hy hX6 hU7
      gi_wp2_with fail
      refine hR.mono ?_
      have hcat2 : pre.flatMap catF ++ pre'.map (oF x) ++ [oF x s] = pre.flatMap catF ++ (pre' ++ [s]).map (oF x) := by rw [List.append_assoc, List.map_append]; rfl
      have HC2 := Lib.hid hcat2
      clear hcat2
      have hkf : ∀ W3, KeepsFrom W.heap.size w7 W3 → KeepsFrom w5.heap.size V1 W3 ∧ KeepsFrom w3.heap.size w5 W3 := fun W3 hk =>
        ⟨(keepsFrom_below hb17).trans (keeps_more hk (by omega)), h5.trans ((keepsFrom_below hb17).trans (keeps_more hk (by omega)))⟩
      rintro e W3 (⟨rfl, hJ3, hk3, hk4⟩ | ⟨rfl, hJx3, hk4⟩)
      · gi_wp2_with fail
        rw [HC2.out] at hJ3
        have hkc : Kc nb ts w.heap.size V1 W3 := (Kc.of_below hb17 (by omega)).trans hk3
        exact ⟨(hkf _ hk4).1, hkc, ⟨hJ3, h4.trans hkc⟩, (hkf _ hk4).2⟩
      · gi_wp2_with fail
        rw [HC2.out] at hJx3
        exact ⟨(hkf _ hk4).1, rfl, hJx3, (hkf _ hk4).2⟩
    case done2 =>
      rintro ys V' hys ⟨⟨h3, h4⟩, h5⟩
      gi_wp2_with fail
      have hys2 := sub_all hys
      have hc2 : pre.flatMap catF ++ ys.map (oF x) = (pre ++ [x]).flatMap catF := by rw [List.flatMap_append, hys2, ← hcF]; simp
      rw [hc2] at h3
      have hkc : Kc nb ts w.heap.size V V' := (Kc.of_below hbV5 (by omega)).trans h4
      exact ⟨hKF5.trans h5, hkc, h3, h2.trans hkc⟩
    case stop2 =>
      rintro c pre' V' hpre ⟨rfl, h4, h5⟩
      gi_wp2_with fail
      refine ⟨hKF5.trans h5, rfl, _, ?_, h4⟩
      rw [List.flatMap_append]
      refine (List.prefix_append_right_inj _).2 ?_
      rw [List.flatMap_cons, List.flatMap_nil, List.append_nil, hcF]
      exact (sub_prefix hpre).map _
  case done =>
    rintro D ys V hD rfl ⟨h3, h4⟩ hK
    have hJD : J ((d.ls n).attach.flatMap catF) (V.putObj D (.deferred none)) := hJ.putObj _ h3 (by omega) hK rfl
    go_wp2_with fail
    refine bodyPostM_ret rfl hK (results_none rfl _ _ _) ⟨⟨_, rfl⟩, .inl ⟨_, hcat, hJD⟩⟩
  case stop =>
    rintro D c pre V hD hpre ⟨rfl, q, hq, hx⟩ hK
    have hJD : Jx q (V.putObj D (.deferred none)) := hJx.putObj _ hx (by omega) hK rfl
    have hqp : q.map (·.1) <+: srt (n : Int) (osOf ss) := by
      have h5 := (hq.trans (cat_prefix catF hpre)).map (·.1)
      rwa [hcat] at h5
    go_wp2_with fail
    refine bodyPostM_ret rfl hK (results_none rfl _ _ _) ⟨⟨_, rfl⟩, .inr ⟨_, hqp, hJD⟩⟩
theorem each_any (p : Option Addr) (i : Int) (w : World) : Calls Tryz.prog 56 #[.pointer p, .int .i64 i] w fun e w' => e = .returned (.func (.func 79) #[] #[.pointer (some ⟨w.heap.size, 0, none⟩), .pointer (some ⟨w.heap.size + 1, 0, none⟩)]) ∧ Blk w' w.heap.size 27 #[.pointer p] ∧ Blk w' (w.heap.size + 1) 3 #[.int .i64 i] ∧ Below w.heap.size w w' := by
  go_enter Tryz.func56, Tryz.ntmps56
  go_wp2_with fail
  go_ret
  exact ⟨rfl, (Blk.new w _ _ _ rfl).alloc _, Blk.new _ _ _ _ (sz_alloc _ _), by (repeat (first | with_reducible exact Below.refl _ _ | (with_reducible assumption) | (with_reducible refine below_alloc ?_ _) | (with_reducible refine below_ext (w1 := ?_) ?_ ?_; rotate_left 2; (with_reducible assumption)) | (with_reducible refine Below.setCell ?_ ?_ _; rotate_left; ((try simp) <;> omega)) | (with_reducible refine Below.drew ?_) | (with_reducible refine below_drewN ?_ _) | fail))⟩
theorem srt_off {N most : Nat} {ss : List Sl} {d : Bd} (I : Bi N most ss d) {i : Int} (hi : i ≠ 0 ∧ i ≠ 1) : srt i (osOf ss) = [] := by
  have h : sdO i (osOf ss) = [] := by
    unfold sdO
    rw [List.filter_eq_nil_iff]
    intro o ho e
    obtain ⟨x, hx, rfl⟩ := List.mem_map.1 ho
    have h1 := (I.ok x hx).1
    simp at e
    omega
  unfold srt
  rw [h]
  rfl
/-- What a book's iterator hands over, whatever the side. -/
theorem beach_all {w : World} {c : Nat → Nat} {b N most k : Nat} {ss : List Sl} (B : Bs w c b N most k ss) (i : Int) (bq bi : Nat) (hq : Blk w bq 27 #[.pointer (some ⟨b, 0, none⟩)]) (hbi : Blk w bi 3 #[.int .i64 i]) (nb : List Nat) (ts : List TypeId) (hts : ∀ t ∈ ts, t ∉ [86, 96, 166, 165]) (hnb : ∀ q ∈ nb, c q = 9 ∧ q < w.heap.size) :
    SeqO Tryz.prog 79 #[.pointer (some ⟨bq, 0, none⟩), .pointer (some ⟨bi, 0, none⟩)] (encO i (osOf ss)) (Kc nb ts w.heap.size) (fun ys => ys.map (·.1) = srt i (osOf ss)) (fun pre => pre.map (·.1) <+: srt i (osOf ss)) 101000 w := by
  by_cases hi : i = 0 ∨ i = 1
  · obtain ⟨n, rfl, hn⟩ : ∃ n : Nat, i = (n : Int) ∧ n < 2 := ⟨i.toNat, by omega, by omega⟩
    exact beach_stops B hn bq bi hq hbi nb ts hts hnb
  · intro l J Jx W hW hJ hJx hY h0
    have hi2 : i ≠ 0 ∧ i ≠ 1 := by omega
    obtain ⟨d, B, I⟩ := B
    have hs := srt_off I hi2
    have hb0 : Below W.heap.size W (W.alloc (.cells #[.func (.yield l) #[] #[]] 165)) := by (repeat (first | with_reducible exact Below.refl _ _ | (with_reducible assumption) | (with_reducible refine below_alloc ?_ _) | (with_reducible refine below_ext (w1 := ?_) ?_ ?_; rotate_left 2; (with_reducible assumption)) | (with_reducible refine Below.setCell ?_ ?_ _; rotate_left; ((try simp) <;> omega)) | (with_reducible refine Below.drew ?_) | (with_reducible refine below_drewN ?_ _) | fail))
    have hJ0 : J [] (W.alloc (.cells #[.func (.yield l) #[] #[]] 165)) := hJ.alloc _ h0
    generalize hW0 : W.alloc (.cells #[.func (.yield l) #[] #[]] 165) = w0 at hb0 hJ0
    have HW0 := Lib.hid hW0
    clear hW0
    have hw0 := below_ext hW hb0
    have cq : w0.cell? ⟨bq, 0, none⟩ = some (.pointer (some ⟨b, 0, none⟩)) := (hq.ext hw0).cell 0
    have ci : w0.cell? ⟨bi, 0, none⟩ = some (.int .i64 i) := (hbi.ext hw0).cell 0
    have HO := Lib.hid (fun W => of_no (w := W) (p := some ⟨b, 0, none⟩) i (.inr hi2))
    have HS := Lib.hid hs
    have HJ := Lib.hid (fun o => hJ.alloc o hJ0)
    clear hi hi2 hs hJ0 hY
    show Calls _ _ (#[.func (.yield l) #[] #[], .pointer (some ⟨bq, 0, none⟩), .pointer (some ⟨bi, 0, none⟩)]) _ _
    refine calls_of_wp_marks Tryz.func79 rfl ?_
    simp only [Tryz.ntmps79, List.size_toArray, List.length_cons, List.length_nil, Nat.reduceAdd, Nat.reduceSub, Array.replicate_succ, Array.replicate_zero, List.push_toArray, List.append_toArray, List.nil_append, List.cons_append]
    go_wp2_with fail
    refine wp_scope_straight ?_
    rw [HW0.out]
    go_wp2_with (first | (go_at_call 45; refine (HO.out _).mono ?_; rintro e w1 ⟨rfl, rfl⟩) | fail)
    show bodyPostM Fence.wide 9 _ _ _ Exit.ret _ _
    exact bodyPostM_none rfl (results_none rfl _ _ _) ⟨⟨_, rfl⟩, .inl ⟨[], HS.out.symm, HJ.out _⟩⟩
end Bk
end Go.Proofs.YtacpjpkhmdcagaaGreat
