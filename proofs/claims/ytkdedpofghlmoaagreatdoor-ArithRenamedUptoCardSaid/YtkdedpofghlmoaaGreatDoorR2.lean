/- The walks of the reference of ranges (jigsawref02), first part. No statement is proved here. -/
import Derived.Test.YtkdedpofghlmoaaGreatDoorD7
set_option linter.unusedVariables false
set_option linter.unusedSimpArgs false
namespace Go.Proofs.YtkdedpofghlmoaaGreatDoor
open Go.RowKit Go.Proofs.YtkdedpofghlmoaaGreatDoorW.PrintWords
theorem in02 (v : Int) (b : Bool) (h : inB v = b) (w : World) : Calls Tryz.prog 132 #[.int .i64 v] w fun e w' => e = .returned (.bool b) ∧ w' = w := by
  subst h
  unfold inB
  by_cases h1 : -1000000 ≤ v
  all_goals
    by_cases h2 : v ≤ 1000000
    all_goals
      go_enter Tryz.func132, Tryz.ntmps132
      go_wp2
      go_ret
      exact ⟨by simp [h1, h2], rfl⟩
theorem inB_t {v : Int} : inB v = true ↔ -1000000 ≤ v ∧ v ≤ 1000000 := by simp [inB]
set_option maxRecDepth 100000 in
set_option maxHeartbeats 4000000 in
theorem r02_Right (A : Option Addr) (c : Nat) (l : List Rng) (w : World) (hr : kRng.C w A l.length l) :
    Calls Tryz.prog 72 #[.slice A l.length c] w fun e w' => e = .returned (.bool (RightL l)) ∧ Bel w w' := by
  have HR := Lib.hid hr
  clear hr
  by_cases h0 : 4096 < (l.length : Int)
  · have HF := Lib.hid (show RightL l = false by unfold RightL; rw [if_pos (by omega)])
    go_enter Tryz.func72, Tryz.ntmps72
    go_wp2
    go_ret
    exact ⟨ret_b HF.out.symm, inferInstance⟩
  · have HF := Lib.hid (show RightL l = rightFrom (-1000002) l by unfold RightL; rw [if_neg (by omega)])
    go_enter Tryz.func72, Tryz.ntmps72
    go_wp2
    go_loopw [3] (fun i wr => ∃ (k : Nat) (p : Int), k ≤ l.length ∧ i = .int .i64 k ∧ Hid (k = 0 ∧ p = -1000002 ∨ -1000000 ≤ p ∧ p ≤ 1000000 ∧ ∃ j r, k = j + 1 ∧ l[j]? = some r ∧ r.hi = p) ∧ Hid (rightFrom p (l.drop k) = RightL l) ∧ Bel w wr) (fun i _ => l.length - (intOf i).toNat)
    case atStart => exact ⟨0, -1000002, by omega, rfl, Lib.hid (.inl ⟨rfl, rfl⟩), Lib.hid (by rw [HF.out]; rfl), inferInstance⟩
    case round =>
      obtain ⟨k, p, hk, rfl, HP, HX, HB⟩ := hrel
      by_cases hlt : k < l.length
      · obtain ⟨r, hv⟩ : ∃ v, l[k]? = some v := ⟨l[k], List.getElem?_eq_getElem hlt⟩
        have HX' := HX.out
        rw [drop_at hv, rightFrom] at HX'
        have HV := Lib.hid hv
        clear HX hv
        obtain ⟨ad, rfl, c0, c1⟩ := Rng.nth HR.out HV.out
        replace c0 := HB.cell c0
        replace c1 := HB.cell c1
        by_cases hlo : -1000000 ≤ r.lo ∧ r.lo ≤ 1000000
        · by_cases hhi : -1000000 ≤ r.hi ∧ r.hi ≤ 1000000
          · have HI := Lib.hid (inB_t.2 hlo)
            have HJ := Lib.hid (inB_t.2 hhi)
            by_cases hle : r.hi < r.lo
            · rw [if_pos (by omega)] at HX'
              replace HX' := Lib.hid HX'
              have g1 : decide (r.hi < r.lo) = true := decide_eq_true hle
              go_wp2
              go_quiet ((go_at_call 132; first | (with_reducible exact Calls.quiet_of_same (in02 _ _ HI.out _)) | (with_reducible exact Calls.quiet_of_same (in02 _ _ HJ.out _))))
              go_wp2
              go_ret
              exact ⟨ret_b HX'.out, inferInstance⟩
            · rcases HP.out with ⟨hk0, hp⟩ | ⟨hp1, hp2, j, q, hj0, hj, hq⟩
              · rw [if_neg (by omega)] at HX'
                replace HX' := Lib.hid HX'
                have g1 : decide (r.hi < r.lo) = false := decide_eq_false hle
                have g2 : decide (0 < k) = false := decide_eq_false (by omega)
                clear hk0 HP
                go_wp2
                go_quiet ((go_at_call 132; first | (with_reducible exact Calls.quiet_of_same (in02 _ _ HI.out _)) | (with_reducible exact Calls.quiet_of_same (in02 _ _ HJ.out _))))
                go_wp2
                go_roundw
                case rel => exact ⟨k + 1, r.hi, by omega, by go_num, Lib.hid (.inr ⟨hhi.1, hhi.2, k, r, rfl, HV.out, rfl⟩), HX', inferInstance⟩
                case measure => simp [intOf]; omega
              · have hk1 : 0 < (k : Int) := by omega
                have d1 : wr.cell? ⟨(ad.add ((k - 1) * 2)).block, (ad.add ((k - 1) * 2)).off + 1, none⟩ = some (.int .i64 p) := by
                  obtain ⟨ad', e', _, d1⟩ := Rng.nth HR.out hj
                  cases e'
                  rw [show k - 1 = j by omega, ← hq]
                  exact HB.cell d1
                have hk2 : (0 : Int) ≤ (k : Int) - 1 := by omega
                have hk3 : (k : Int) - 1 < (l.length : Int) := by omega
                have g1 : decide (r.hi < r.lo) = false := decide_eq_false hle
                have g2 : decide (0 < k) = true := decide_eq_true (by omega)
                clear hj0 hj hq HP
                by_cases hpl : r.lo ≤ p + 1
                · have g3 : decide (r.lo ≤ p + 1) = true := decide_eq_true hpl
                  rw [if_pos (by omega)] at HX'
                  replace HX' := Lib.hid HX'
                  go_wp2
                  go_quiet ((go_at_call 132; first | (with_reducible exact Calls.quiet_of_same (in02 _ _ HI.out _)) | (with_reducible exact Calls.quiet_of_same (in02 _ _ HJ.out _))))
                  go_wp2
                  go_ret
                  exact ⟨ret_b HX'.out, inferInstance⟩
                · have g3 : decide (r.lo ≤ p + 1) = false := decide_eq_false hpl
                  rw [if_neg (by omega)] at HX'
                  replace HX' := Lib.hid HX'
                  go_wp2
                  go_quiet ((go_at_call 132; first | (with_reducible exact Calls.quiet_of_same (in02 _ _ HI.out _)) | (with_reducible exact Calls.quiet_of_same (in02 _ _ HJ.out _))))
                  go_wp2
                  go_roundw
                  case rel => exact ⟨k + 1, r.hi, by omega, by go_num, Lib.hid (.inr ⟨hhi.1, hhi.2, k, r, rfl, HV.out, rfl⟩), HX', inferInstance⟩
                  case measure => simp [intOf]; omega
          · rw [if_pos (by rcases HP.out with h | h <;> omega)] at HX'
            replace HX' := Lib.hid HX'
            have HI := Lib.hid (inB_t.2 hlo)
            have HJ := Lib.hid (show inB r.hi = false by rw [Bool.eq_false_iff, ne_eq, inB_t]; exact hhi)
            clear hhi
            go_wp2
            go_quiet ((go_at_call 132; first | (with_reducible exact Calls.quiet_of_same (in02 _ _ HI.out _)) | (with_reducible exact Calls.quiet_of_same (in02 _ _ HJ.out _))))
            go_wp2
            go_ret
            exact ⟨ret_b HX'.out, inferInstance⟩
        · rw [if_pos (by rcases HP.out with h | h <;> omega)] at HX'
          replace HX' := Lib.hid HX'
          have HI := Lib.hid (show inB r.lo = false by rw [Bool.eq_false_iff, ne_eq, inB_t]; exact hlo)
          clear hlo
          go_wp2
          go_quiet ((go_at_call 132; exact Calls.quiet_of_same (in02 _ _ HI.out _)))
          go_wp2
          go_ret
          exact ⟨ret_b HX'.out, inferInstance⟩
      · go_wp2
        go_ret
        have : k = l.length := by omega
        subst this
        exact ⟨ret_b (by have := HX.out; rw [List.drop_length] at this; exact this), inferInstance⟩
end Go.Proofs.YtkdedpofghlmoaaGreatDoor
