/- The walk of the product of whole numbers (ints.Mul), over the kit's contract of math/bits.Mul64. No statement is proved here. -/
import Derived.Test.YtkdedpofghlmoaaGreatDoorI1
import Derived.Test.YtkdedpofghlmoaaGreatDoorSH
import Derived.Shelf.Bits.Mul64
set_option linter.unusedVariables false
set_option linter.unusedSimpArgs false
namespace Go.Proofs.YtkdedpofghlmoaaGreatDoor
open Go.RowKit Go.Proofs.YtkdedpofghlmoaaGreatDoorW.PrintWords
theorem fit_of {p : Nat} {z : Int} {b : Bool} (hb : z = if b then -(p : Int) else p) : signedL p b = fitL z := by
  subst hb
  cases b <;> simp only [signedL, fitL, in64, if_true, if_false, Bool.false_eq_true, Bool.and_eq_true, decide_eq_true_eq] <;> split <;> split <;> first | rfl | (exfalso; omega)
theorem sign_mul (x y : Int) : x * y = if (decide (x < 0) != decide (y < 0)) then -((x.natAbs * y.natAbs : Nat) : Int) else ((x.natAbs * y.natAbs : Nat) : Int) := by
  rcases Int.natAbs_eq x with h | h <;> rcases Int.natAbs_eq y with k | k
  all_goals
    generalize x.natAbs = m at *
    generalize y.natAbs = n at *
    subst h k
    rcases Nat.eq_zero_or_pos m with rfl | h1
    · simp
    rcases Nat.eq_zero_or_pos n with rfl | h2
    · simp
    by_cases a1 : (m : Int) < 0 <;> by_cases a2 : (n : Int) < 0 <;> by_cases a3 : -(m : Int) < 0 <;> by_cases a4 : -(n : Int) < 0 <;> first | omega | simp [a1, a2, a3, a4, h1, h2, Int.neg_mul, Int.mul_neg]
theorem u64Mul {x y : Int} {m n : Nat} (hx : x = (m : Int)) (hy : y = (n : Int)) (h1 : m < 18446744073709551616) (h2 : n < 18446744073709551616) {hi lo : Int} (e1 : ((m * n / 18446744073709551616 : Nat) : Int) = hi) (e2 : ((m * n % 18446744073709551616 : Nat) : Int) = lo) (w : World) :
    Calls Tryz.prog 254 #[.int .u64 x, .int .u64 y] w fun e w' => e = .returned (.tuple #[.int .u64 hi, .int .u64 lo]) ∧ w' = w := by
  subst hx hy e1 e2
  exact Any.bits_Mul64 lays264 m n h1 h2 w
set_option maxHeartbeats 1000000 in
theorem ints_Mul (x y : Int) (hx : in64 x = true) (hy : in64 y = true) (w : World) :
    Calls Tryz.prog 198 #[.int .i64 x, .int .i64 y] w fun e w' => e = .returned (.tuple #[.int .i64 (fitL (x * y)).1, .int .i64 (fitL (x * y)).2]) ∧ w' = w := by
  have hs := sign_mul x y
  have hx' := hx
  have hy' := hy
  simp only [in64, Bool.and_eq_true, decide_eq_true_eq] at hx' hy'
  obtain ⟨x0, x1⟩ := hx'
  obtain ⟨y0, y1⟩ := hy'
  obtain ⟨m, hm⟩ : ∃ m : Nat, x.natAbs = m := ⟨_, rfl⟩
  obtain ⟨n, hn⟩ : ∃ n : Nat, y.natAbs = n := ⟨_, rfl⟩
  have m1 : m < 18446744073709551616 := by omega
  have n1 : n < 18446744073709551616 := by omega
  obtain ⟨p, hp⟩ : ∃ p : Nat, m * n = p := ⟨_, rfl⟩
  rw [hm, hn, hp] at hs
  obtain ⟨b, hb⟩ : ∃ b, (decide (x < 0) != decide (y < 0)) = b := ⟨_, rfl⟩
  rw [hb] at hs
  have hm' : (x.natAbs : Int) = (m : Int) := by omega
  have hn' : (y.natAbs : Int) = (n : Int) := by omega
  obtain ⟨r, hr⟩ : ∃ r, fitL (x * y) = r := ⟨_, rfl⟩
  rw [hr]
  have hfit := fit_of hs
  rw [hr] at hfit
  have HB := Lib.hid hb
  have HM := Lib.hid hm'
  have HN := Lib.hid hn'
  have HX := Lib.hid hx
  have HY := Lib.hid hy
  by_cases hbig : p < 18446744073709551616
  · have h1 := Lib.hid (show ((m * n / 18446744073709551616 : Nat) : Int) = 0 by rw [hp]; omega)
    have h2 := Lib.hid (show ((m * n % 18446744073709551616 : Nat) : Int) = (p : Int) by rw [hp]; omega)
    have HR := Lib.hid hfit
    clear hm hn hm' hn' hb hx hy hs hr hp hfit
    go_enter Tryz.func198, Tryz.ntmps198
    go_wp2_with (first | (go_at_call 255; refine (ints_size_u (by first | exact HX.out | exact HY.out) (by first | exact HM.out | exact HN.out) _).mono ?_; rintro e w1 ⟨rfl, rfl⟩) | (go_at_call 254; refine (u64Mul rfl rfl m1 n1 h1.out h2.out _).mono ?_; rintro e w1 ⟨rfl, rfl⟩) | (go_at_call 256; refine (ints_signed_b HB.out (by omega) (by omega) HR.out _).mono ?_; rintro e w1 ⟨rfl, rfl⟩))
    go_ret2
    exact ⟨rfl, rfl⟩
  · obtain rfl : r = (0, 10) := by
      rw [← hr, hs]
      cases b <;> simp [fitL, in64] <;> omega
    obtain ⟨q, hq⟩ : ∃ q, ((m * n / 18446744073709551616 : Nat) : Int) = q := ⟨_, rfl⟩
    obtain ⟨s, hs2⟩ : ∃ q, ((m * n % 18446744073709551616 : Nat) : Int) = q := ⟨_, rfl⟩
    have q0 : 0 < q := by rw [← hq, hp]; omega
    have h1 := Lib.hid hq
    have h2 := Lib.hid hs2
    clear hm hn hm' hn' hb hx hy hs hr hp hfit hq hs2
    go_enter Tryz.func198, Tryz.ntmps198
    go_wp2_with (first | (go_at_call 255; refine (ints_size_u (by first | exact HX.out | exact HY.out) (by first | exact HM.out | exact HN.out) _).mono ?_; rintro e w1 ⟨rfl, rfl⟩) | (go_at_call 254; refine (u64Mul rfl rfl m1 n1 h1.out h2.out _).mono ?_; rintro e w1 ⟨rfl, rfl⟩))
    go_ret2
    exact ⟨rfl, rfl⟩
end Go.Proofs.YtkdedpofghlmoaaGreatDoor
