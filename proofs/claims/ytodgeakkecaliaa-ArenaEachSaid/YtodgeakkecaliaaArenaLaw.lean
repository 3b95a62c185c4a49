/- This text proves the contract of the arena chapter's example, and lemmas for its laws. It has no conditions but those that it states. -/
import Derived.Test.YtodgeakkecaliaaArena
import Derived.Test.YtodgeakkecaliaaOwn
namespace Go.Proofs.Ytodgeakkecaliaa
set_option linter.unusedVariables false
open Go.RowKit
namespace Are
set_option maxHeartbeats 1000000
set_option maxRecDepth 10000

theorem but_below {g : Nat} {w0 w w' : World} (h : Below w0.heap.size w0 w) (hg : w0.heap.size ≤ g) (k : But g w.heap.size w w') : Below w0.heap.size w0 w' :=
  h.trans (k.below hg h.size)

theorem rd_range {α : Type} {c : α → List Value} {w : World} {k : Nat} {A : Option Addr} {xs : List α} (h : Rd w k A (xs.map c)) {i : Nat} (hi : i < xs.length) :
    ∃ b off, A = some ⟨b, off, none⟩ ∧ w.rangeAt b (off + i * k) (c xs[i]) := by
  obtain ⟨b, off, e, hc⟩ := h.at hi
  exact ⟨b, off, e, fun j v hv => by rw [Nat.add_assoc]; exact hc j v hv⟩
def alS1 : St := takeS (new0 3) 0 ⟨1, 0, 0, 0, 0, 0, 0⟩
def alS2 : St := takeS alS1 1 ⟨2, 0, 0, 0, 0, 0, 0⟩
def alS3 : St := dropS alS2 0
def alS4 : St := takeS alS3 0 ⟨3, 0, 0, 0, 0, 0, 0⟩
theorem al_new (w : World) : Calls Try.prog 12 #[.int .i64 3] w fun e w' => ∃ g, e = .returned (.tuple #[.pointer (some ⟨g, 0, none⟩), .int .i64 0]) ∧ w.heap.size ≤ g ∧ Ar w' g (new0 3) ∧ Below w.heap.size w w' := new_any 3 w (by decide) (by decide)
theorem al_t1 (g : Nat) (w : World) (hA : Ar w g (new0 3)) : Calls Try.prog 13 #[.pointer (some ⟨g, 0, none⟩), .agg #[.int .i64 1, .int .i64 0, .int .i64 0, .int .i64 0, .int .i64 0, .int .i64 0, .int .i64 0]] w fun e w' => e = .returned (.tuple #[.int .i64 0, .int .i64 0]) ∧ Ar w' g alS1 ∧ But g w.heap.size w w' :=
  take_any g _ 0 ⟨1, 0, 0, 0, 0, 0, 0⟩ w hA rfl (by decide) ⟨by decide, by decide⟩
theorem al_t2 (g : Nat) (w : World) (hA : Ar w g alS1) : Calls Try.prog 13 #[.pointer (some ⟨g, 0, none⟩), .agg #[.int .i64 2, .int .i64 0, .int .i64 0, .int .i64 0, .int .i64 0, .int .i64 0, .int .i64 0]] w fun e w' => e = .returned (.tuple #[.int .i64 1, .int .i64 0]) ∧ Ar w' g alS2 ∧ But g w.heap.size w w' :=
  take_any g _ 1 ⟨2, 0, 0, 0, 0, 0, 0⟩ w hA rfl (by decide) ⟨by decide, by decide⟩
theorem al_d (g : Nat) (w : World) (hA : Ar w g alS2) : Calls Try.prog 22 #[.pointer (some ⟨g, 0, none⟩), .int .i64 0] w fun e w' => e = .returned (.bool true) ∧ Ar w' g alS3 ∧ But g w.heap.size w w' :=
  drop_yes g _ 0 w hA (by decide) (by decide) rfl ⟨by decide, by decide⟩
theorem al_t3 (g : Nat) (w : World) (hA : Ar w g alS3) : Calls Try.prog 13 #[.pointer (some ⟨g, 0, none⟩), .agg #[.int .i64 3, .int .i64 0, .int .i64 0, .int .i64 0, .int .i64 0, .int .i64 0, .int .i64 0]] w fun e w' => e = .returned (.tuple #[.int .i64 0, .int .i64 0]) ∧ Ar w' g alS4 ∧ But g w.heap.size w w' :=
  take_any g _ 0 ⟨3, 0, 0, 0, 0, 0, 0⟩ w hA rfl (by decide) ⟨by decide, by decide⟩
theorem al_used (g : Nat) (w : World) (hA : Ar w g alS4) : Calls Try.prog 17 #[.pointer (some ⟨g, 0, none⟩)] w fun e w' => e = .returned (.int .i64 2) ∧ w = w' := used_any g _ w hA
theorem al_room (g : Nat) (w : World) (hA : Ar w g alS4) : Calls Try.prog 19 #[.pointer (some ⟨g, 0, none⟩)] w fun e w' => e = .returned (.int .i64 1) ∧ Below w.heap.size w w' := room_any g _ w hA (by decide) ⟨by decide, by decide⟩
theorem alive_any (w : World) : Calls Try.prog 11 #[] w fun e w' => e = .returned (.bool true) ∧ Below w.heap.size w w' := by
  go_enter Try.func11, Try.ntmps11
  go_wp2_with fail
  refine (al_new _).mono ?_
  rintro e w1 ⟨g, rfl, hg, hA1, hb1⟩
  go_wp2_with fail
  refine (al_t1 g _ hA1).mono ?_
  rintro e w2 ⟨rfl, hA2, hu2⟩
  have hb2 := but_below hb1 hg hu2
  go_wp2_with fail
  refine (al_t2 g _ hA2).mono ?_
  rintro e w3 ⟨rfl, hA3, hu3⟩
  have hb3 := but_below hb2 hg hu3
  go_wp2_with fail
  refine (al_d g _ hA3).mono ?_
  rintro e w4 ⟨rfl, hA4, hu4⟩
  have hb4 := but_below hb3 hg hu4
  go_wp2_with fail
  refine (al_t3 g _ hA4).mono ?_
  rintro e w5 ⟨rfl, hA5, hu5⟩
  have hb5 := but_below hb4 hg hu5
  go_wp2_with fail
  refine (al_used g _ hA5).mono ?_
  rintro e w6 ⟨rfl, rfl⟩
  go_wp2_with fail
  refine (al_room g _ hA5).mono ?_
  rintro e w7 ⟨rfl, hb7⟩
  go_wp2_with fail
  go_ret
  exact ⟨rfl, by (repeat (first | with_reducible exact Below.refl _ _ | (with_reducible assumption) | (with_reducible refine below_alloc ?_ _) | (with_reducible refine below_ext (w1 := ?_) ?_ ?_; rotate_left 2; (with_reducible assumption)) | (with_reducible refine Below.setCell ?_ ?_ _; rotate_left; ((try simp) <;> omega)) | (with_reducible refine Below.drew ?_) | (with_reducible refine below_drewN ?_ _) | fail))⟩
end Are
end Go.Proofs.Ytodgeakkecaliaa
