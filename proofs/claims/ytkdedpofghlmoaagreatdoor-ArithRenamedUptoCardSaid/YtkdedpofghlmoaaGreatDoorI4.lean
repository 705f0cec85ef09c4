/- The walk of ints.small: the powers told without a loop. No statement is proved here. -/
import Derived.Test.YtkdedpofghlmoaaGreatDoorI2
set_option linter.unusedVariables false
set_option linter.unusedSimpArgs false
namespace Go.Proofs.YtkdedpofghlmoaaGreatDoor
open Go.RowKit Go.Proofs.YtkdedpofghlmoaaGreatDoorW.PrintWords
def smallL (b e : Int) : Int × Int × Bool :=
  if e = 0 ∨ b = 1 ∨ (b = -1 ∧ e % 2 = 0) then (1, 0, true) else if b = -1 then (-1, 0, true) else if b = 0 ∧ e < 0 then (0, 11, true) else if b = 0 ∨ e < 0 then (0, 0, true) else (0, 0, false)
set_option maxHeartbeats 1000000 in
theorem ints_small (b e : Int) (w : World) :
    Calls Tryz.prog 257 #[.int .i64 b, .int .i64 e] w fun e' w' => e' = .returned (.tuple #[.int .i64 (smallL b e).1, .int .i64 (smallL b e).2.1, .bool (smallL b e).2.2]) ∧ w' = w := by
  by_cases h1 : e = 0
  · subst h1
    rw [show smallL b 0 = (1, 0, true) by simp [smallL]]
    go_enter Tryz.func257, Tryz.ntmps257
    go_wp2
    go_ret3
    exact ⟨rfl, rfl⟩
  by_cases h2 : b = 1
  · subst h2
    rw [show smallL 1 e = (1, 0, true) by simp [smallL]]
    go_enter Tryz.func257, Tryz.ntmps257
    go_wp2
    go_ret3
    exact ⟨rfl, rfl⟩
  have k1 : (e == 0) = false := by simpa using h1
  have k2 : (b == 1) = false := by simpa using h2
  by_cases h3 : b = -1
  · subst h3
    have ht : e.tmod 2 = 0 ↔ e % 2 = 0 := by rw [← Int.dvd_iff_tmod_eq_zero, ← Int.dvd_iff_emod_eq_zero]
    by_cases h4 : e % 2 = 0
    · rw [show smallL (-1) e = (1, 0, true) by simp [smallL, h4]]
      have h5 : (e.tmod 2 == 0) = true := by rw [beq_iff_eq]; exact ht.2 h4
      go_enter Tryz.func257, Tryz.ntmps257
      go_wp2
      go_ret3
      exact ⟨rfl, rfl⟩
    · rw [show smallL (-1) e = (-1, 0, true) by simp [smallL, h4, h1]]
      have h5 : (e.tmod 2 == 0) = false := by rw [beq_eq_false_iff_ne]; exact fun h => h4 (ht.1 h)
      go_enter Tryz.func257, Tryz.ntmps257
      go_wp2
      go_ret3
      exact ⟨rfl, rfl⟩
  have k3 : (b == -1) = false := by simpa using h3
  by_cases h4 : b = 0
  · subst h4
    by_cases h5 : e < 0
    · rw [show smallL 0 e = (0, 11, true) by simp [smallL, h1, h5]]
      go_enter Tryz.func257, Tryz.ntmps257
      go_wp2
      go_ret3
      exact ⟨rfl, rfl⟩
    · rw [show smallL 0 e = (0, 0, true) by simp [smallL, h1, h5]]
      go_enter Tryz.func257, Tryz.ntmps257
      go_wp2
      go_ret3
      exact ⟨rfl, rfl⟩
  have k4 : (b == 0) = false := by simpa using h4
  by_cases h5 : e < 0
  · rw [show smallL b e = (0, 0, true) by simp [smallL, h1, h2, h3, h4, h5]]
    go_enter Tryz.func257, Tryz.ntmps257
    go_wp2
    go_ret3
    exact ⟨rfl, rfl⟩
  · rw [show smallL b e = (0, 0, false) by simp [smallL, h1, h2, h3, h4, h5]]
    go_enter Tryz.func257, Tryz.ntmps257
    go_wp2
    go_ret3
    exact ⟨rfl, rfl⟩
end Go.Proofs.YtkdedpofghlmoaaGreatDoor
