/- The walks of package dom: what each function of ranges comes to. No statement is proved here. -/
import Derived.Test.YtkdedpofghlmoaaGreatDoorB1
set_option linter.unusedVariables false
set_option linter.unusedSimpArgs false
namespace Go.Proofs.YtkdedpofghlmoaaGreatDoor
open Go.RowKit Go.Proofs.YtkdedpofghlmoaaGreatDoorW.PrintWords
def rightFrom (e : Int) : List Rng → Bool
  | [] => true
  | r :: l => if r.lo ≤ e + 1 ∨ r.hi < r.lo ∨ r.hi > 1000000 then false else rightFrom r.hi l
def RightL (l : List Rng) : Bool := if l.length > 4096 then false else rightFrom (-1000002) l

set_option maxHeartbeats 1000000 in
theorem dom_Right (A : Option Addr) (c : Nat) (l : List Rng) (w : World) (hr : kRng.C w A l.length l) :
    Calls Tryz.prog 165 #[.slice A l.length c] w fun e w' => e = .returned (.bool (RightL l)) ∧ Bel w w' := by
  have HR := Lib.hid hr
  clear hr
  by_cases h0 : 4096 < (l.length : Int)
  · have HF := Lib.hid (show RightL l = false by unfold RightL; rw [if_pos (by omega)])
    go_enter Tryz.func165, Tryz.ntmps165
    go_wp2
    go_ret
    exact ⟨ret_b HF.out.symm, inferInstance⟩
  · have HF := Lib.hid (show RightL l = rightFrom (-1000002) l by unfold RightL; rw [if_neg (by omega)])
    go_enter Tryz.func165, Tryz.ntmps165
    go_wp2
    go_loopw [3, 11] (fun e i wr => ∃ (k : Nat) (x : Int), k ≤ l.length ∧ i = .int .i64 k ∧ e = .int .i64 x ∧ -1000002 ≤ x ∧ x ≤ 1000000 ∧ Hid (rightFrom x (l.drop k) = RightL l) ∧ Bel w wr) (fun _ i _ => l.length - (intOf i).toNat)
    case atStart => exact ⟨0, -1000002, by omega, rfl, rfl, by omega, by omega, Lib.hid (by rw [HF.out]; rfl), inferInstance⟩
    case round =>
      obtain ⟨k, x, hk, rfl, rfl, hx1, hx2, HX, HB⟩ := hrel
      by_cases hlt : k < l.length
      · obtain ⟨r, hr⟩ : ∃ r, l[k]? = some r := ⟨l[k], List.getElem?_eq_getElem hlt⟩
        obtain ⟨ad, rfl, c0, c1⟩ := Rng.nth HR.out hr
        have HX' := HX.out
        rw [drop_at hr] at HX'
        unfold rightFrom at HX'
        clear hr HX
        replace c0 := HB.cell c0
        replace c1 := HB.cell c1
        split at HX' <;> (replace HX' := Lib.hid HX')
        · go_wp2
          all_goals (go_ret; exact ⟨ret_b HX'.out, inferInstance⟩)
        · go_wp2
          go_roundw
          case rel => exact ⟨k + 1, r.hi, by omega, by go_num, rfl, by omega, by omega, HX', inferInstance⟩
          case measure => simp [intOf]; omega
      · go_wp2
        go_ret
        have : k = l.length := by omega
        subst this
        exact ⟨ret_b (by have := HX.out; rw [List.drop_length] at this; exact this), inferInstance⟩
def takenL (l : List Rng) : List Rng := if RightL l then l else []
theorem takenL_len (l : List Rng) : (takenL l).length ≤ 4096 := by
  unfold takenL RightL
  by_cases h : l.length > 4096
  · simp [h]
  · rw [if_neg h]
    split
    · omega
    · simp
set_option maxHeartbeats 400000 in
theorem dom_taken (A : Option Addr) (c : Nat) (l : List Rng) (w : World) (hc : l.length ≤ c) (hr : kRng.C w A l.length l) :
    Calls Tryz.prog 239 #[.slice A l.length c] w (RetS kRng (takenL l) w) := by
  have HR := Lib.hid hr
  clear hr
  cases h0 : RightL l
  · have HF := Lib.hid (show takenL l = [] by simp [takenL, h0])
    have H0 := Lib.hid h0
    clear h0
    go_enter Tryz.func239, Tryz.ntmps239
    go_wp2_with (go_at_call 165; refine (dom_Right _ _ _ _ HR.out).mono ?_; rintro e w1 ⟨rfl, HB⟩; rw [H0.out])
    go_ret
    exact ⟨none, 0, by rw [HF.out]; rfl, by rw [HF.out]; simp, by rw [HF.out]; exact Kd.C_nil _ _, HB⟩
  · have HF := Lib.hid (show takenL l = l by simp [takenL, h0])
    have H0 := Lib.hid h0
    clear h0
    go_enter Tryz.func239, Tryz.ntmps239
    go_wp2_with (go_at_call 165; refine (dom_Right _ _ _ _ HR.out).mono ?_; rintro e w1 ⟨rfl, HB⟩; rw [H0.out])
    go_ret
    exact ⟨A, c, by rw [HF.out]; rfl, by rw [HF.out]; exact hc, by rw [HF.out]; exact Kd.now HR.out HB, HB⟩
def cutL (lo hi : Int) : List Rng → List Rng
  | [] => []
  | r :: l => if mxi r.lo lo ≤ mni r.hi hi then ⟨mxi r.lo lo, mni r.hi hi⟩ :: cutL lo hi l else cutL lo hi l
set_option maxHeartbeats 1000000 in
theorem dom_Cut (A : Option Addr) (c : Nat) (l : List Rng) (lo hi : Int) (w : World) (hc : l.length ≤ c) (hr : kRng.C w A l.length l) :
    Calls Tryz.prog 172 #[.slice A l.length c, .int .i64 lo, .int .i64 hi] w (RetS kRng (cutL lo hi (takenL l)) w) := by
  have HR := Lib.hid hr
  clear hr
  go_enter Tryz.func172, Tryz.ntmps172
  go_wp2_with (go_at_call 239; refine (dom_taken _ _ _ _ hc HR.out).mono ?_; rintro e w0 ⟨A1, c1, rfl, hl1, hr1, HB0⟩; have HR1 := Lib.hid hr1; clear hr1)
  have hlen := takenL_len l
  generalize takenL l = t at *
  go_loopw [7, 14] (fun v i wr => ∃ (k : Nat) (out : List Rng), k ≤ t.length ∧ i = .int .i64 k ∧ out.length ≤ k ∧ AccR w0 wr v out ∧ Hid (out ++ cutL lo hi (t.drop k) = cutL lo hi t)) (fun _ i _ => t.length - (intOf i).toNat)
  case atStart => exact ⟨0, [], by omega, rfl, by simp, inferInstance, Lib.hid (by simp)⟩
  case round =>
    obtain ⟨k, out, hk, rfl, ho, HO, HX⟩ := hrel
    by_cases hlt : k < t.length
    · obtain ⟨r, hr⟩ : ∃ r, t[k]? = some r := ⟨t[k], List.getElem?_eq_getElem hlt⟩
      obtain ⟨ad, rfl, c0, c1⟩ := Rng.nth HR1.out hr
      have HX' := HX.out
      rw [drop_at hr] at HX'
      simp only [cutL] at HX'
      clear hr HX
      replace c0 := HO.cell c0
      replace c1 := HO.cell c1
      split at HX' <;> (replace HX' := Lib.hid HX')
      · go_wp2_with (at_builtin; refine AccR.app HO rfl rfl rfl rfl (by simp) inferInstance (by omega) ?_; intro v1 w1 HO1 hk1; clear hk1)
        go_roundw
        case rel => exact ⟨k + 1, _, by omega, by go_num, by simp; omega, HO1, Lib.hid (by have := HX'.out; simpa using this)⟩
        case measure => simp [intOf]; omega
      · go_wp2
        go_roundw
        case rel => exact ⟨k + 1, out, by omega, by go_num, by omega, inferInstance, HX'⟩
        case measure => simp [intOf]; omega
    · go_wp2
      go_ret
      have : k = t.length := by omega
      subst this
      have hx := HX.out
      rw [List.drop_length, cutL, List.append_nil] at hx
      subst hx
      obtain ⟨A2, c2, rfl, h2, h3⟩ := Acc.reads HO
      exact ⟨A2, c2, rfl, h2, h3, HB0.trans HO.bel⟩
end Go.Proofs.YtkdedpofghlmoaaGreatDoor
