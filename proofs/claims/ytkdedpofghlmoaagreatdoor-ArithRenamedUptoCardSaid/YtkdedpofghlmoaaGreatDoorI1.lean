/- The walks of whole-number arithmetic (ints): size, signed, Add, Div, Mod. No statement is proved here. -/
import Derived.Test.YtkdedpofghlmoaaGreatDoorR3
set_option linter.unusedVariables false
set_option linter.unusedSimpArgs false
namespace Go.Proofs.YtkdedpofghlmoaaGreatDoor
open Go.RowKit Go.Proofs.YtkdedpofghlmoaaGreatDoorW.PrintWords
theorem ints_size (v : Int) (h1 : -9223372036854775808 ≤ v) (h2 : v ≤ 9223372036854775807) (w : World) :
    Calls Tryz.prog 255 #[.int .i64 v] w fun e w' => e = .returned (.int .u64 (v.natAbs : Int)) ∧ w' = w := by
  by_cases h : v < 0
  · go_enter Tryz.func255, Tryz.ntmps255
    go_wp2
    go_ret
    refine ⟨?_, rfl⟩
    show Ending.returned (Value.int IntKind.u64 (IntKind.u64.wrap (-IntKind.u64.wrap v))) = _
    congr 2
    rw [IntKind.wrap_u64, IntKind.wrap_u64]
    omega
  · go_enter Tryz.func255, Tryz.ntmps255
    go_wp2
    go_ret
    refine ⟨?_, rfl⟩
    show Ending.returned (Value.int IntKind.u64 v) = _
    congr 2
    omega
def signedL (m : Int) (b : Bool) : Int × Int := if b then (if m ≤ 9223372036854775808 then (-m, 0) else (0, 10)) else (if m ≤ 9223372036854775807 then (m, 0) else (0, 10))
theorem ints_signed (m : Int) (b : Bool) (h1 : 0 ≤ m) (h2 : m ≤ 18446744073709551615) (w : World) :
    Calls Tryz.prog 256 #[.int .u64 m, .bool b] w fun e w' => e = .returned (.tuple #[.int .i64 (signedL m b).1, .int .i64 (signedL m b).2]) ∧ w' = w := by
  cases b
  · by_cases h : m ≤ 9223372036854775807
    · rw [show signedL m false = (m, 0) by simp [signedL, h]]
      go_enter Tryz.func256, Tryz.ntmps256
      go_wp2
      go_ret2
      exact ⟨rfl, rfl⟩
    · rw [show signedL m false = (0, 10) by simp [signedL, h]]
      go_enter Tryz.func256, Tryz.ntmps256
      go_wp2
      go_ret2
      exact ⟨rfl, rfl⟩
  · by_cases h : m ≤ 9223372036854775808
    · rw [show signedL m true = (-m, 0) by simp [signedL, h]]
      go_enter Tryz.func256, Tryz.ntmps256
      go_wp2
      go_ret2
      refine ⟨?_, rfl⟩
      show Ending.returned (.tuple #[Value.int IntKind.i64 (wrap64 (-wrap64 m)), .int .i64 0]) = _
      have e : wrap64 (-wrap64 m) = -m := by unfold wrap64; omega
      rw [e]
    · rw [show signedL m true = (0, 10) by simp [signedL, h]]
      go_enter Tryz.func256, Tryz.ntmps256
      go_wp2
      go_ret2
      exact ⟨rfl, rfl⟩
def in64 (v : Int) : Bool := decide (-9223372036854775808 ≤ v) && decide (v ≤ 9223372036854775807)
def fitL (v : Int) : Int × Int := if in64 v then (v, 0) else (0, 10)
set_option maxHeartbeats 1000000 in
theorem ints_Add (x y : Int) (hx : in64 x = true) (hy : in64 y = true) (w : World) :
    Calls Tryz.prog 197 #[.int .i64 x, .int .i64 y] w fun e w' => e = .returned (.tuple #[.int .i64 (fitL (x + y)).1, .int .i64 (fitL (x + y)).2]) ∧ w' = w := by
  simp only [in64, Bool.and_eq_true, decide_eq_true_eq] at hx hy
  obtain ⟨x0, x1⟩ := hx
  obtain ⟨y0, y1⟩ := hy
  by_cases hp : 0 < y
  · by_cases hq : 9223372036854775807 - y < x
    · rw [show fitL (x + y) = (0, 10) by simp [fitL, in64]; omega]
      go_enter Tryz.func197, Tryz.ntmps197
      go_wp2
      go_ret2
      exact ⟨rfl, rfl⟩
    · rw [show fitL (x + y) = (x + y, 0) by simp [fitL, in64]; omega]
      go_enter Tryz.func197, Tryz.ntmps197
      go_wp2
      go_ret2
      exact ⟨rfl, rfl⟩
  · by_cases hq : y < 0
    · by_cases hr : x < -9223372036854775808 - y
      · rw [show fitL (x + y) = (0, 10) by simp [fitL, in64]; omega]
        go_enter Tryz.func197, Tryz.ntmps197
        go_wp2
        go_ret2
        exact ⟨rfl, rfl⟩
      · rw [show fitL (x + y) = (x + y, 0) by simp [fitL, in64]; omega]
        go_enter Tryz.func197, Tryz.ntmps197
        go_wp2
        go_ret2
        exact ⟨rfl, rfl⟩
    · obtain rfl : y = 0 := by omega
      rw [show fitL (x + 0) = (x + 0, 0) by simp [fitL, in64]; omega]
      go_enter Tryz.func197, Tryz.ntmps197
      go_wp2
      go_ret2
      exact ⟨by simp, rfl⟩
theorem ints_size_u {v : Int} {m : Int} (hv : in64 v = true) (hm : (v.natAbs : Int) = m) (w : World) :
    Calls Tryz.prog 255 #[.int .i64 v] w fun e w' => e = .returned (.int .u64 m) ∧ w' = w := by
  simp only [in64, Bool.and_eq_true, decide_eq_true_eq] at hv
  exact hm ▸ ints_size v hv.1 hv.2 w
theorem ints_signed_b {m : Int} {b b' : Bool} {r : Int × Int} (hb : b' = b) (h1 : 0 ≤ m) (h2 : m ≤ 18446744073709551615) (hr : signedL m b = r) (w : World) :
    Calls Tryz.prog 256 #[.int .u64 m, .bool b'] w fun e w' => e = .returned (.tuple #[.int .i64 r.1, .int .i64 r.2]) ∧ w' = w := by
  subst hb hr
  exact ints_signed m b' h1 h2 w
def divL (x y : Int) : Int × Int := if y = 0 then (0, 11) else signedL ((x.natAbs : Int) / (y.natAbs : Int)) (decide (x < 0) != decide (y < 0))
def modL (x y : Int) : Int × Int := if y = 0 then (0, 11) else signedL ((x.natAbs : Int) % (y.natAbs : Int)) (decide (x < 0))
set_option maxHeartbeats 1000000 in
theorem ints_Div (x y : Int) (hx : in64 x = true) (hy : in64 y = true) (w : World) :
    Calls Tryz.prog 199 #[.int .i64 x, .int .i64 y] w fun e w' => e = .returned (.tuple #[.int .i64 (divL x y).1, .int .i64 (divL x y).2]) ∧ w' = w := by
  by_cases hz : y = 0
  · subst hz
    rw [show divL x 0 = (0, 11) from rfl]
    go_enter Tryz.func199, Tryz.ntmps199
    go_wp2
    go_ret2
    exact ⟨rfl, rfl⟩
  · unfold divL
    rw [if_neg hz]
    have hx' := hx
    have hy' := hy
    simp only [in64, Bool.and_eq_true, decide_eq_true_eq] at hx' hy'
    obtain ⟨x0, x1⟩ := hx'
    obtain ⟨y0, y1⟩ := hy'
    obtain ⟨m, hm⟩ : ∃ m, (x.natAbs : Int) = m := ⟨_, rfl⟩
    obtain ⟨k, hk⟩ : ∃ k, (y.natAbs : Int) = k := ⟨_, rfl⟩
    have m0 : 0 ≤ m := by omega
    have m1 : m ≤ 18446744073709551615 := by omega
    have k0 : 1 ≤ k := by omega
    rw [hm, hk]
    have q0 : 0 ≤ m / k := Int.ediv_nonneg m0 (by omega)
    have q1 : m / k ≤ 18446744073709551615 := Int.le_trans (Int.ediv_le_self _ m0) m1
    have HM := Lib.hid hm
    have HK := Lib.hid hk
    have HX := Lib.hid hx
    have HY := Lib.hid hy
    clear hm hk hx hy
    obtain ⟨b, hb⟩ : ∃ b, (decide (x < 0) != decide (y < 0)) = b := ⟨_, rfl⟩
    rw [hb]
    obtain ⟨r, hr⟩ : ∃ r, signedL (m / k) b = r := ⟨_, rfl⟩
    rw [hr]
    have HB := Lib.hid hb
    have HR := Lib.hid hr
    clear hb hr
    go_enter Tryz.func199, Tryz.ntmps199
    go_wp2_with (first | (go_at_call 255; refine (ints_size_u (by first | exact HX.out | exact HY.out) (by first | exact HM.out | exact HK.out) _).mono ?_; rintro e w1 ⟨rfl, rfl⟩) | (go_at_call 256; refine (ints_signed_b HB.out q0 q1 HR.out _).mono ?_; rintro e w1 ⟨rfl, rfl⟩))
    go_ret2
    exact ⟨rfl, rfl⟩
set_option maxHeartbeats 1000000 in
theorem ints_Mod (x y : Int) (hx : in64 x = true) (hy : in64 y = true) (w : World) :
    Calls Tryz.prog 200 #[.int .i64 x, .int .i64 y] w fun e w' => e = .returned (.tuple #[.int .i64 (modL x y).1, .int .i64 (modL x y).2]) ∧ w' = w := by
  by_cases hz : y = 0
  · subst hz
    rw [show modL x 0 = (0, 11) from rfl]
    go_enter Tryz.func200, Tryz.ntmps200
    go_wp2
    go_ret2
    exact ⟨rfl, rfl⟩
  · unfold modL
    rw [if_neg hz]
    have hx' := hx
    have hy' := hy
    simp only [in64, Bool.and_eq_true, decide_eq_true_eq] at hx' hy'
    obtain ⟨x0, x1⟩ := hx'
    obtain ⟨y0, y1⟩ := hy'
    obtain ⟨m, hm⟩ : ∃ m, (x.natAbs : Int) = m := ⟨_, rfl⟩
    obtain ⟨k, hk⟩ : ∃ k, (y.natAbs : Int) = k := ⟨_, rfl⟩
    have m0 : 0 ≤ m := by omega
    have m1 : m ≤ 18446744073709551615 := by omega
    have k0 : 1 ≤ k := by omega
    have k1 : k ≤ 18446744073709551615 := by omega
    rw [hm, hk]
    have q0 : 0 ≤ m % k := Int.emod_nonneg m (by omega)
    have q1 : m % k ≤ 18446744073709551615 := Int.le_trans (Int.le_of_lt (Int.emod_lt_of_pos m (by omega))) k1
    have HM := Lib.hid hm
    have HK := Lib.hid hk
    have HX := Lib.hid hx
    have HY := Lib.hid hy
    clear hm hk hx hy
    obtain ⟨r, hr⟩ : ∃ r, signedL (m % k) (decide (x < 0)) = r := ⟨_, rfl⟩
    rw [hr]
    have HR := Lib.hid hr
    clear hr
    go_enter Tryz.func200, Tryz.ntmps200
    go_wp2_with (first | (go_at_call 255; refine (ints_size_u (by first | exact HX.out | exact HY.out) (by first | exact HM.out | exact HK.out) _).mono ?_; rintro e w1 ⟨rfl, rfl⟩) | (go_at_call 256; refine (ints_signed_b rfl q0 q1 HR.out _).mono ?_; rintro e w1 ⟨rfl, rfl⟩))
    go_ret2
    exact ⟨rfl, rfl⟩
end Go.Proofs.YtkdedpofghlmoaaGreatDoor
