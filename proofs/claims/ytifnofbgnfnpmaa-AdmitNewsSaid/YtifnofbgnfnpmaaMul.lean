/- This text proves contracts of products: wide.Mul, fix.Mul, fix.Notional, and damperref02.Mul, damperref02.Notional, of numbers that are not below 0. It has no conditions but those that it states. -/
import Derived.Test.YtifnofbgnfnpmaaBits
namespace Go.Proofs.Ytifnofbgnfnpmaa
set_option linter.unusedVariables false
open Go.RowKit
namespace Mul
set_option maxHeartbeats 1000000
set_option maxRecDepth 10000
theorem and_low (n : Nat) (h : n < 2 ^ 64) : bits .and .u64 (n : Int) 4294967295 = ((n % 4294967296 : Nat) : Int) := by
  have h1 := bits_and_u64_nat n 4294967295 (by omega) (by decide)
  rw [show (4294967295 : Int) = ((4294967295 : Nat) : Int) from rfl, h1]
  have h2 := Nat.and_two_pow_sub_one_eq_mod n 32
  rw [show (2 : Nat) ^ 32 - 1 = 4294967295 from rfl, show (2 : Nat) ^ 32 = 4294967296 from rfl] at h2
  rw [h2]
theorem or_low (h l : Nat) (hh : h < 4294967296) (hl : l < 4294967296) : bits .or .u64 ((h * 4294967296 : Nat) : Int) (l : Int) = ((h * 4294967296 + l : Nat) : Int) := by
  rw [bits_or_u64_nat _ _ (by omega) (by omega)]
  congr 1
  have h1 := Nat.two_pow_add_eq_or_of_lt (b := l) (i := 32) (by omega) h
  rw [Nat.mul_comm h]
  exact h1.symm
theorem mul_le32 {x y : Nat} (hx : x < 4294967296) (hy : y < 4294967296) : x * y ≤ 18446744065119617025 := by
  have := Nat.mul_le_mul (show x ≤ 4294967295 by omega) (show y ≤ 4294967295 by omega)
  omega
/-- The names of a product's parts. -/
theorem wide_law (a b : Nat) (ha : a < 2 ^ 64) (hb : b < 2 ^ 64) : ∃ a1 a0 b1 b0 least l1 m0 mid o0 ml other h0 mh h1 oh h2 sh ll lo : Nat,
    ((a : Int) / 4294967296 = a1 ∧ bits .and .u64 (a : Int) 4294967295 = a0 ∧ (b : Int) / 4294967296 = b1 ∧ bits .and .u64 (b : Int) 4294967295 = b0) ∧
    (IntKind.u64.wrap ((a0 : Int) * b0) = least ∧ (least : Int) / 4294967296 = l1 ∧ IntKind.u64.wrap ((a1 : Int) * b0) = m0 ∧ IntKind.u64.wrap ((m0 : Int) + l1) = mid ∧ IntKind.u64.wrap ((a0 : Int) * b1) = o0 ∧ bits .and .u64 (mid : Int) 4294967295 = ml) ∧
    (IntKind.u64.wrap ((o0 : Int) + ml) = other ∧ IntKind.u64.wrap ((a1 : Int) * b1) = h0 ∧ (mid : Int) / 4294967296 = mh ∧ IntKind.u64.wrap ((h0 : Int) + mh) = h1 ∧ (other : Int) / 4294967296 = oh ∧ IntKind.u64.wrap ((h1 : Int) + oh) = h2) ∧
    (IntKind.u64.wrap ((other : Int) * 4294967296) = sh ∧ bits .and .u64 (least : Int) 4294967295 = ll ∧ bits .or .u64 (sh : Int) (ll : Int) = lo) ∧ h2 = a * b / 2 ^ 64 ∧ lo = a * b % 2 ^ 64 := by
  have e : a * b = (a / 4294967296) * (b / 4294967296) * 18446744073709551616 + ((a / 4294967296) * (b % 4294967296) + (a % 4294967296) * (b / 4294967296)) * 4294967296 + (a % 4294967296) * (b % 4294967296) := by
    have h1 : a = a / 4294967296 * 4294967296 + a % 4294967296 := by omega
    have h2 : b = b / 4294967296 * 4294967296 + b % 4294967296 := by omega
    generalize a / 4294967296 = x at *
    generalize a % 4294967296 = y at *
    generalize b / 4294967296 = u at *
    generalize b % 4294967296 = v at *
    subst h1 h2
    rw [Nat.add_mul, Nat.mul_add, Nat.mul_add]
    have e1 : x * 4294967296 * (u * 4294967296) = x * u * 18446744073709551616 := by rw [Nat.mul_mul_mul_comm]
    have e2 : x * 4294967296 * v = x * v * 4294967296 := by rw [Nat.mul_right_comm]
    have e3 : y * (u * 4294967296) = y * u * 4294967296 := by rw [Nat.mul_assoc]
    rw [e1, e2, e3, Nat.add_mul]
    omega
  have g1 : a / 4294967296 < 4294967296 := by omega
  have g2 : b / 4294967296 < 4294967296 := by omega
  have g3 : a % 4294967296 < 4294967296 := by omega
  have g4 : b % 4294967296 < 4294967296 := by omega
  have q0 := mul_le32 g3 g4
  have q1 := mul_le32 g1 g4
  have q2 := mul_le32 g3 g2
  have q3 := mul_le32 g1 g2
  have c0 := and_low a ha
  have c1 := and_low b hb
  have w0 : ∀ n : Nat, n < 18446744073709551616 → IntKind.u64.wrap (n : Int) = n := fun n hn => IntWalk.u64_in _ (by omega)
  refine ⟨a / 4294967296, a % 4294967296, b / 4294967296, b % 4294967296, a % 4294967296 * (b % 4294967296), a % 4294967296 * (b % 4294967296) / 4294967296, a / 4294967296 * (b % 4294967296), a / 4294967296 * (b % 4294967296) + a % 4294967296 * (b % 4294967296) / 4294967296, a % 4294967296 * (b / 4294967296), (a / 4294967296 * (b % 4294967296) + a % 4294967296 * (b % 4294967296) / 4294967296) % 4294967296,
    a % 4294967296 * (b / 4294967296) + (a / 4294967296 * (b % 4294967296) + a % 4294967296 * (b % 4294967296) / 4294967296) % 4294967296, a / 4294967296 * (b / 4294967296), (a / 4294967296 * (b % 4294967296) + a % 4294967296 * (b % 4294967296) / 4294967296) / 4294967296, a / 4294967296 * (b / 4294967296) + (a / 4294967296 * (b % 4294967296) + a % 4294967296 * (b % 4294967296) / 4294967296) / 4294967296, (a % 4294967296 * (b / 4294967296) + (a / 4294967296 * (b % 4294967296) + a % 4294967296 * (b % 4294967296) / 4294967296) % 4294967296) / 4294967296, a / 4294967296 * (b / 4294967296) + (a / 4294967296 * (b % 4294967296) + a % 4294967296 * (b % 4294967296) / 4294967296) / 4294967296 + (a % 4294967296 * (b / 4294967296) + (a / 4294967296 * (b % 4294967296) + a % 4294967296 * (b % 4294967296) / 4294967296) % 4294967296) / 4294967296,
    (a % 4294967296 * (b / 4294967296) + (a / 4294967296 * (b % 4294967296) + a % 4294967296 * (b % 4294967296) / 4294967296) % 4294967296) % 4294967296 * 4294967296, a % 4294967296 * (b % 4294967296) % 4294967296, (a % 4294967296 * (b / 4294967296) + (a / 4294967296 * (b % 4294967296) + a % 4294967296 * (b % 4294967296) / 4294967296) % 4294967296) % 4294967296 * 4294967296 + a % 4294967296 * (b % 4294967296) % 4294967296, ?_⟩
  rw [e]
  have p0 : ∀ x y : Nat, x * y < 18446744073709551616 → IntKind.u64.wrap ((x : Int) * (y : Int)) = ((x * y : Nat) : Int) := fun x y h => by rw [← Int.natCast_mul]; exact w0 _ h
  have p1 := p0 _ _ (show a % 4294967296 * (b % 4294967296) < _ by omega)
  have p2 := p0 _ _ (show a / 4294967296 * (b % 4294967296) < _ by omega)
  have p3 := p0 _ _ (show a % 4294967296 * (b / 4294967296) < _ by omega)
  have p4 := p0 _ _ (show a / 4294967296 * (b / 4294967296) < _ by omega)
  generalize hx0 : a % 4294967296 * (b % 4294967296) = x0 at *
  generalize hx1 : a / 4294967296 * (b % 4294967296) = x1 at *
  generalize hx2 : a % 4294967296 * (b / 4294967296) = x2 at *
  generalize hx3 : a / 4294967296 * (b / 4294967296) = x3 at *
  refine ⟨⟨by omega, c0, by omega, c1⟩, ⟨p1, by omega, p2, ?_, p3, and_low _ (by omega)⟩, ⟨?_, p4, by omega, ?_, by omega, ?_⟩, ⟨?_, and_low _ (by omega), ?_⟩, by omega, by omega⟩
  · rw [← Int.natCast_add]; exact w0 _ (by omega)
  · rw [← Int.natCast_add]; exact w0 _ (by omega)
  · rw [← Int.natCast_add]; exact w0 _ (by omega)
  · rw [← Int.natCast_add]; exact w0 _ (by omega)
  · rw [IntKind.wrap_u64]; omega
  · exact or_low _ _ (by omega) (by omega)
theorem xor_zero (a : Nat) (ha : a < 2 ^ 63) : bits .xor .i64 (a : Int) 0 = a := by
  have h : bits .xor .i64 (a : Int) 0 = (BitVec.ofInt 64 (a : Int) ^^^ BitVec.ofInt 64 0).toInt := Fix.wrap_toNat _
  rw [h, show BitVec.ofInt 64 0 = 0#64 from by decide, BitVec.xor_zero, BitVec.toInt_ofInt, Int.bmod_def]
  omega
theorem xor_pos (a b : Nat) (ha : a < 2 ^ 63) (hb : b < 2 ^ 63) : ∃ x : Nat, bits .xor .i64 (a : Int) (b : Int) = x ∧ x < 2 ^ 63 := by
  have h1 := Fix.xor_neg (x := (a : Int)) (y := (b : Int)) ⟨by omega, by omega⟩ ⟨by omega, by omega⟩
  have h2 := bits_hi_i64 .xor (a : Int) (b : Int)
  have h3 : ¬ bits .xor .i64 (a : Int) (b : Int) < 0 := by rw [h1]; omega
  exact ⟨(bits .xor .i64 (a : Int) (b : Int)).toNat, by omega, by omega⟩
theorem sign_pos (a : Nat) (ha : a < 2 ^ 63) (w : World) : Calls Try.prog 57 #[.int .i64 a] w fun e w' => e = .returned (.int .i64 0) ∧ w = w' := by
  have h0 : (a : Int) / 9223372036854775808 = 0 := by omega
  go_enter Try.func57, Try.ntmps57
  go_wp2_with fail
  go_ret
  exact ⟨rfl, rfl⟩
theorem size_pos (a : Nat) (ha : a < 2 ^ 63) (w : World) : Calls Try.prog 56 #[.int .i64 a] w fun e w' => e = .returned (.int .u64 a) ∧ w = w' := by
  have h1 := xor_zero a ha
  have h2 : (a : Int) ≤ 9223372036854775807 := by omega
  go_enter Try.func56, Try.ntmps56
  go_wp2_with (first | (go_at_call 57; refine (sign_pos _ ha _).mono ?_; rintro e w' ⟨rfl, rfl⟩) | fail)
  go_ret
  exact ⟨rfl, rfl⟩
theorem wide_any (a b : Nat) (ha : a < 2 ^ 64) (hb : b < 2 ^ 64) (w : World) : Calls Try.prog 55 #[.int .u64 a, .int .u64 b] w fun e w' => e = .returned (.agg #[.int .u64 (a * b / 2 ^ 64 : Nat), .int .u64 (a * b % 2 ^ 64 : Nat)]) ∧ Below w.heap.size w w' := by
  obtain ⟨a1, a0, b1, b0, least, l1, m0, mid, o0, ml, other, h0, mh, h1, oh, h2, sh, ll, lo, ⟨q1, q2, q3, q4⟩, ⟨q5, q6, q7, q8, q9, q10⟩, ⟨q11, q12, q13, q14, q15, q16⟩, ⟨q17, q18, q19⟩, hH, hL⟩ := wide_law a b ha hb
  rw [← hH, ← hL]
  clear hH hL
  go_enter Try.func55, Try.ntmps55
  go_wp2_with fail
  refine bodyPost_ret (v := .agg #[.int .u64 h2, .int .u64 lo]) (by simp [results, Try.results55, go_sem]; first | done | rfl | exact ⟨rfl, rfl⟩) rfl ⟨rfl, ?_⟩
  (repeat (first | with_reducible exact Below.refl _ _ | (with_reducible assumption) | (with_reducible refine below_alloc ?_ _) | (with_reducible refine below_ext (w1 := ?_) ?_ ?_; rotate_left 2; (with_reducible assumption)) | (with_reducible refine Below.setCell ?_ ?_ _; rotate_left; ((try simp) <;> omega)) | (with_reducible refine Below.drew ?_) | (with_reducible refine below_drewN ?_ _) | fail))
def mulF (n : Nat) : Int × Bool := if n < 2 ^ 63 then ((n : Int), true) else (0, false)
def MulPost (n : Nat) (w : World) (e : Ending) (w' : World) : Prop := e = .returned (.tuple #[.int .i64 (mulF n).1, .bool (mulF n).2]) ∧ Below w.heap.size w w'
theorem mul_pos (a b : Nat) (ha : a < 2 ^ 63) (hb : b < 2 ^ 63) (w : World) : Calls Try.prog 50 #[.int .i64 a, .int .i64 b] w (MulPost (a * b) w) := by
  obtain ⟨x, hx, hx2⟩ := xor_pos a b ha hb
  have hn : a * b < 2 ^ 63 * 2 ^ 63 := Nat.mul_lt_mul'' ha hb
  have hW := Lib.hid (fun W => wide_any a b (by omega) (by omega) W)
  generalize hnn : a * b = n at *
  clear hnn
  have hlo : n % 2 ^ 64 < 2 ^ 64 := Nat.mod_lt _ (by decide)
  by_cases h1 : n / 2 ^ 64 = 0
  · by_cases h2 : n < 2 ^ 63
    · have hF : Hid (mulF n = ((n : Int), true)) := Lib.hid (by unfold mulF; rw [if_pos h2])
      rw [h1, Nat.mod_eq_of_lt (by omega)] at hW
      clear h1 hlo hn
      have h3 := xor_zero n h2
      have h4 : (n : Int) ≤ 9223372036854775807 := by omega
      go_enter Try.func50, Try.ntmps50
      go_wp2_with (first
        | ((go_at_call 56); (with_reducible refine (size_pos a ha _).mono ?_); rintro e w' ⟨rfl, rfl⟩)
        | ((go_at_call 56); (with_reducible refine (size_pos b hb _).mono ?_); rintro e w' ⟨rfl, rfl⟩)
        | (go_at_call 55; refine (hW.out _).mono ?_; rintro e w1 ⟨rfl, hb1⟩; (have hcb1 := fun (b o : Nat) (h : b < _) => hb1.cell (p := ⟨b, o, none⟩) h))
        | (go_at_call 57; refine (sign_pos x hx2 _).mono ?_; rintro e w' ⟨rfl, rfl⟩)
        | fail)
      go_ret2
      exact ⟨by rw [hF.out]; rfl, by (repeat (first | with_reducible exact Below.refl _ _ | (with_reducible assumption) | (with_reducible refine below_alloc ?_ _) | (with_reducible refine below_ext (w1 := ?_) ?_ ?_; rotate_left 2; (with_reducible assumption)) | (with_reducible refine Below.setCell ?_ ?_ _; rotate_left; ((try simp) <;> omega)) | (with_reducible refine Below.drew ?_) | (with_reducible refine below_drewN ?_ _) | fail))⟩
    · have hF : Hid (mulF n = (0, false)) := Lib.hid (by unfold mulF; rw [if_neg h2])
      rw [h1, Nat.mod_eq_of_lt (by omega)] at hW
      clear h1 hlo
      have h4 : (9223372036854775807 : Int) < (n : Int) := by omega
      clear hn
      go_enter Try.func50, Try.ntmps50
      go_wp2_with (first
        | ((go_at_call 56); (with_reducible refine (size_pos a ha _).mono ?_); rintro e w' ⟨rfl, rfl⟩)
        | ((go_at_call 56); (with_reducible refine (size_pos b hb _).mono ?_); rintro e w' ⟨rfl, rfl⟩)
        | (go_at_call 55; refine (hW.out _).mono ?_; rintro e w1 ⟨rfl, hb1⟩; (have hcb1 := fun (b o : Nat) (h : b < _) => hb1.cell (p := ⟨b, o, none⟩) h))
        | (go_at_call 57; refine (sign_pos x hx2 _).mono ?_; rintro e w' ⟨rfl, rfl⟩)
        | fail)
      go_ret2
      exact ⟨by rw [hF.out]; rfl, by (repeat (first | with_reducible exact Below.refl _ _ | (with_reducible assumption) | (with_reducible refine below_alloc ?_ _) | (with_reducible refine below_ext (w1 := ?_) ?_ ?_; rotate_left 2; (with_reducible assumption)) | (with_reducible refine Below.setCell ?_ ?_ _; rotate_left; ((try simp) <;> omega)) | (with_reducible refine Below.drew ?_) | (with_reducible refine below_drewN ?_ _) | fail))⟩
  · have hF : Hid (mulF n = (0, false)) := Lib.hid (by unfold mulF; rw [if_neg (by omega)])
    have h4 : (((n / 2 ^ 64 : Nat) : Int) == (0 : Int)) = false := by rw [beq_eq_false_iff_ne]; omega
    have h5 : (((n / 2 ^ 64 : Nat) : Int) != (0 : Int)) = true := by rw [bne_iff_ne]; omega
    generalize n / 2 ^ 64 = hi at *
    generalize n % 2 ^ 64 = lo at *
    clear h1 hn hlo
    go_enter Try.func50, Try.ntmps50
    go_wp2_with (first
      | ((go_at_call 56); (with_reducible refine (size_pos a ha _).mono ?_); rintro e w' ⟨rfl, rfl⟩)
      | ((go_at_call 56); (with_reducible refine (size_pos b hb _).mono ?_); rintro e w' ⟨rfl, rfl⟩)
      | (go_at_call 55; refine (hW.out _).mono ?_; rintro e w1 ⟨rfl, hb1⟩; (have hcb1 := fun (b o : Nat) (h : b < _) => hb1.cell (p := ⟨b, o, none⟩) h))
      | (go_at_call 57; refine (sign_pos x hx2 _).mono ?_; rintro e w' ⟨rfl, rfl⟩)
      | fail)
    go_ret2
    exact ⟨by rw [hF.out]; rfl, by (repeat (first | with_reducible exact Below.refl _ _ | (with_reducible assumption) | (with_reducible refine below_alloc ?_ _) | (with_reducible refine below_ext (w1 := ?_) ?_ ?_; rotate_left 2; (with_reducible assumption)) | (with_reducible refine Below.setCell ?_ ?_ _; rotate_left; ((try simp) <;> omega)) | (with_reducible refine Below.drew ?_) | (with_reducible refine below_drewN ?_ _) | fail))⟩
theorem notional_any (p q : Nat) (hp : p < 2 ^ 63) (hq : q < 2 ^ 63) (w : World) : Calls Try.prog 40 #[.int .i64 p, .int .i64 q] w (MulPost (p * q) w) := by
  have hM := Lib.hid (fun W => mul_pos p q hp hq W)
  go_enter Try.func40, Try.ntmps40
  go_wp2_with (first | (go_at_call 50; refine (hM.out _).mono ?_; rintro e w' ⟨rfl, hb1⟩) | fail)
  go_ret2
  exact ⟨rfl, hb1⟩
theorem rsize_pos (a : Nat) (ha : a < 2 ^ 63) (w : World) : Calls Try.prog 60 #[.int .i64 a] w fun e w' => e = .returned (.int .u64 a) ∧ w = w' := by
  have h2 : (a : Int) ≤ 9223372036854775807 := by omega
  go_enter Try.func60, Try.ntmps60
  go_wp2_with fail
  go_ret
  exact ⟨rfl, rfl⟩
set_option maxRecDepth 100000 in
theorem rsigned_pos (n : Nat) (hn : n < 2 ^ 64) (w : World) : Calls Try.prog 61 #[.int .u64 n, .bool false] w fun e w' => e = .returned (.tuple #[.int .i64 (mulF n).1, .bool (mulF n).2]) ∧ w = w' := by
  by_cases h2 : n < 2 ^ 63
  · have hF : Hid (mulF n = ((n : Int), true)) := Lib.hid (by unfold mulF; rw [if_pos h2])
    have h4 : decide ((9223372036854775808 : Int) ≤ (n : Int)) = false := decide_eq_false (by omega)
    have h5 : decide (9223372036854775808 ≤ n) = false := decide_eq_false (by omega)
    have h6 : Hid (wrap64 (n : Int) = n) := Lib.hid (by unfold wrap64; omega)
    clear h2 hn
    go_enter Try.func61, Try.ntmps61
    go_wp2_with fail
    go_ret2
    exact ⟨by show Ending.returned (.tuple #[.int .i64 (wrap64 (n : Int)), .bool true]) = _; rw [hF.out, h6.out], rfl⟩
  · have hF : Hid (mulF n = (0, false)) := Lib.hid (by unfold mulF; rw [if_neg h2])
    have h4 : decide ((9223372036854775808 : Int) ≤ (n : Int)) = true := decide_eq_true (by omega)
    have h5 : decide (9223372036854775808 ≤ n) = true := decide_eq_true (by omega)
    clear h2 hn
    go_enter Try.func61, Try.ntmps61
    go_wp2_with fail
    go_ret2
    exact ⟨by rw [hF.out]; rfl, rfl⟩
theorem rmul_pos (a b : Nat) (ha : a < 2 ^ 63) (hb : b < 2 ^ 63) (w : World) : Calls Try.prog 52 #[.int .i64 a, .int .i64 b] w (MulPost (a * b) w) := by
  have hn : a * b < 2 ^ 63 * 2 ^ 63 := Nat.mul_lt_mul'' ha hb
  have hW := Lib.hid (fun W => Bit.mul_any a b (by omega) (by omega) W)
  generalize hnn : a * b = n at *
  clear hnn
  have hH := Lib.hid (fun W => Bit.halves_any n (by omega) W)
  have hlo : n % 2 ^ 64 < 2 ^ 64 := Nat.mod_lt _ (by decide)
  have h2 : (a : Int) ≤ 9223372036854775807 := by omega
  have h3 : (b : Int) ≤ 9223372036854775807 := by omega
  by_cases h1 : n / 2 ^ 64 = 0
  · rw [h1, Nat.mod_eq_of_lt (show n < 2 ^ 64 by omega)] at hH
    have hS := Lib.hid (fun W => rsigned_pos n (by omega) W)
    clear h1 hlo hn
    go_enter Try.func52, Try.ntmps52
    go_wp2_with (first
      | ((go_at_call 60); (with_reducible refine (rsize_pos a ha _).mono ?_); rintro e w' ⟨rfl, rfl⟩)
      | ((go_at_call 60); (with_reducible refine (rsize_pos b hb _).mono ?_); rintro e w' ⟨rfl, rfl⟩)
      | (go_at_call 59; refine (hW.out _).mono ?_; rintro e w1 ⟨rfl, hb1⟩; (have hcb1 := fun (b o : Nat) (h : b < _) => hb1.cell (p := ⟨b, o, none⟩) h))
      | (go_at_call 58; refine (hH.out _).mono ?_; rintro e w2 ⟨rfl, hb2⟩; (have hcb2 := fun (b o : Nat) (h : b < _) => hb2.cell (p := ⟨b, o, none⟩) h))
      | (go_at_call 61; refine (hS.out _).mono ?_; rintro e w' ⟨rfl, rfl⟩)
      | fail)
    go_ret2
    exact ⟨rfl, below_ext hb1 hb2⟩
  · have hF : Hid (mulF n = (0, false)) := Lib.hid (by unfold mulF; rw [if_neg (by omega)])
    have h4 : (0 : Int) < ((n / 2 ^ 64 : Nat) : Int) := by omega
    generalize n / 2 ^ 64 = hi at *
    generalize n % 2 ^ 64 = lo at *
    clear h1 hn hlo
    go_enter Try.func52, Try.ntmps52
    go_wp2_with (first
      | ((go_at_call 60); (with_reducible refine (rsize_pos a ha _).mono ?_); rintro e w' ⟨rfl, rfl⟩)
      | ((go_at_call 60); (with_reducible refine (rsize_pos b hb _).mono ?_); rintro e w' ⟨rfl, rfl⟩)
      | (go_at_call 59; refine (hW.out _).mono ?_; rintro e w1 ⟨rfl, hb1⟩; (have hcb1 := fun (b o : Nat) (h : b < _) => hb1.cell (p := ⟨b, o, none⟩) h))
      | (go_at_call 58; refine (hH.out _).mono ?_; rintro e w2 ⟨rfl, hb2⟩; (have hcb2 := fun (b o : Nat) (h : b < _) => hb2.cell (p := ⟨b, o, none⟩) h))
      | fail)
    go_ret2
    exact ⟨by rw [hF.out]; rfl, below_ext hb1 hb2⟩
theorem rnotional_any (p q : Nat) (hp : p < 2 ^ 63) (hq : q < 2 ^ 63) (w : World) : Calls Try.prog 46 #[.int .i64 p, .int .i64 q] w (MulPost (p * q) w) := by
  have hM := Lib.hid (fun W => rmul_pos p q hp hq W)
  go_enter Try.func46, Try.ntmps46
  go_wp2_with (first | (go_at_call 52; refine (hM.out _).mono ?_; rintro e w' ⟨rfl, hb1⟩) | fail)
  go_ret2
  exact ⟨rfl, hb1⟩
end Mul
end Go.Proofs.Ytifnofbgnfnpmaa
