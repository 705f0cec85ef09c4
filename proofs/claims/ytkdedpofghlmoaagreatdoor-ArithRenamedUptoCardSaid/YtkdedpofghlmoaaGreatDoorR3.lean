/- The walks of the reference of ranges (jigsawref02): Taken, Min, Max, Has, Alike, Cut, Values. No statement is proved here. -/
import Derived.Test.YtkdedpofghlmoaaGreatDoorR2
set_option linter.unusedVariables false
set_option linter.unusedSimpArgs false
namespace Go.Proofs.YtkdedpofghlmoaaGreatDoor
open Go.RowKit Go.Proofs.YtkdedpofghlmoaaGreatDoorW.PrintWords
attribute [local go_sem high] eqA101
set_option maxHeartbeats 400000 in
theorem r02_Taken (A : Option Addr) (c : Nat) (l : List Rng) (w : World) (hc : l.length ≤ c) (hr : kRng.C w A l.length l) :
    Calls Tryz.prog 127 #[.slice A l.length c] w (RetS kRng (takenL l) w) := by
  have HR := Lib.hid hr
  clear hr
  cases h0 : RightL l
  · have HF := Lib.hid (show takenL l = [] by simp [takenL, h0])
    have H0 := Lib.hid h0
    clear h0
    go_enter Tryz.func127, Tryz.ntmps127
    go_wp2_with (go_at_call 72; refine (r02_Right _ _ _ _ HR.out).mono ?_; rintro e w1 ⟨rfl, HB⟩; rw [H0.out])
    go_ret
    exact ⟨none, 0, by rw [HF.out]; rfl, by rw [HF.out]; simp, by rw [HF.out]; exact Kd.C_nil _ _, HB⟩
  · have HF := Lib.hid (show takenL l = l by simp [takenL, h0])
    have H0 := Lib.hid h0
    clear h0
    go_enter Tryz.func127, Tryz.ntmps127
    go_wp2_with (go_at_call 72; refine (r02_Right _ _ _ _ HR.out).mono ?_; rintro e w1 ⟨rfl, HB⟩; rw [H0.out])
    go_ret
    exact ⟨A, c, by rw [HF.out]; rfl, by rw [HF.out]; exact hc, by rw [HF.out]; exact Kd.now HR.out HB, HB⟩
theorem r02_TakenT {t : List Rng} (A : Option Addr) (c : Nat) (l : List Rng) (w : World) (hc : l.length ≤ c) (hr : kRng.C w A l.length l) (ht : takenL l = t) :
    Calls Tryz.prog 127 #[.slice A l.length c] w (RetS kRng t w) := ht ▸ r02_Taken A c l w hc hr
theorem addr_add0 (ad : Addr) : ad.add 0 = ad := by
  unfold Addr.add
  split <;> simp_all
def minR (l : List Rng) : Int × Bool := match takenL l with | [] => (0, false) | r :: _ => (r.lo, true)
set_option maxHeartbeats 400000 in
theorem r02_Min (A : Option Addr) (c : Nat) (l : List Rng) (w : World) (hc : l.length ≤ c) (hr : kRng.C w A l.length l) :
    Calls Tryz.prog 101 #[.slice A l.length c] w fun e w' => e = .returned (.tuple #[.int .i64 (minR l).1, .bool (minR l).2]) ∧ Bel w w' := by
  have HR := Lib.hid hr
  clear hr
  unfold minR
  generalize ht : takenL l = t at *
  have HT := Lib.hid ht
  clear ht
  cases t with
  | nil =>
    go_enter Tryz.func101, Tryz.ntmps101
    go_wp2_with (go_at_call 127; refine (r02_TakenT _ _ _ _ hc HR.out HT.out).mono ?_; rintro e w0 ⟨A1, c1, rfl, hl1, hr1, HB0⟩; clear hr1)
    go_ret2
    exact ⟨rfl, HB0⟩
  | cons r t =>
    go_enter Tryz.func101, Tryz.ntmps101
    have g1 : ((t.length : Int) + 1 == 0) = false := by rw [beq_eq_false_iff_ne]; omega
    go_wp2_with (go_at_call 127; refine (r02_TakenT _ _ _ _ hc HR.out HT.out).mono ?_; rintro e w0 ⟨A1, c1, rfl, hl1, hr1, HB0⟩; obtain ⟨ad, rfl, c0, c9⟩ := Rng.nth (k := 0) hr1 rfl; clear c9 hr1; rw [Nat.zero_mul, addr_add0] at c0)
    go_ret2
    exact ⟨rfl, HB0⟩
theorem r02_Has (A : Option Addr) (c : Nat) (l : List Rng) (v : Int) (w : World) (hc : l.length ≤ c) (hr : kRng.C w A l.length l) :
    Calls Tryz.prog 66 #[.slice A l.length c, .int .i64 v] w fun e w' => e = .returned (.bool ((takenL l).any fun r => decide (r.lo ≤ v) && decide (v ≤ r.hi))) ∧ Bel w w' := by
  have HR := Lib.hid hr
  clear hr
  have hlen := takenL_len l
  generalize ht : takenL l = t at *
  have HT := Lib.hid ht
  clear ht
  go_enter Tryz.func66, Tryz.ntmps66
  go_wp2_with (go_at_call 127; refine (r02_TakenT _ _ _ _ hc HR.out HT.out).mono ?_; rintro e w0 ⟨A1, c1, rfl, hl1, hr1, HB0⟩; have HR1 := Lib.hid hr1; clear hr1)
  go_loopw [5] (fun i wr => ∃ (k : Nat), k ≤ t.length ∧ i = .int .i64 k ∧ Bel w0 wr ∧ Hid (((t.drop k).any fun r => decide (r.lo ≤ v) && decide (v ≤ r.hi)) = (t.any fun r => decide (r.lo ≤ v) && decide (v ≤ r.hi)))) (fun i _ => t.length - (intOf i).toNat)
  case atStart => exact ⟨0, by omega, rfl, inferInstance, Lib.hid (by simp)⟩
  case round =>
    obtain ⟨k, hk, rfl, HB, HX⟩ := hrel
    by_cases hlt : k < t.length
    · obtain ⟨r, hr⟩ : ∃ r, t[k]? = some r := ⟨t[k], List.getElem?_eq_getElem hlt⟩
      obtain ⟨ad, rfl, c0, c1⟩ := Rng.nth HR1.out hr
      have HX' := HX.out
      rw [drop_at hr, List.any_cons] at HX'
      clear hr HX
      replace c0 := HB.cell c0
      replace c1 := HB.cell c1
      by_cases h1 : r.lo ≤ v ∧ v ≤ r.hi
      · rw [decide_eq_true h1.1, decide_eq_true h1.2] at HX'
        replace HX' := Lib.hid HX'
        go_wp2
        go_ret
        exact ⟨ret_b (by simpa using HX'.out), HB0.trans inferInstance⟩
      · rw [show (decide (r.lo ≤ v) && decide (v ≤ r.hi)) = false by simp; omega, Bool.false_or] at HX'
        replace HX' := Lib.hid HX'
        go_wp2
        all_goals go_roundw
        all_goals first
          | exact ⟨k + 1, by omega, by go_num, inferInstance, HX'⟩
          | (simp [intOf]; omega)
    · go_wp2
      go_ret
      have : k = t.length := by omega
      subst this
      exact ⟨ret_b (by have := HX.out; rw [List.drop_length] at this; simpa using this), HB0.trans HB⟩
set_option maxHeartbeats 400000 in
theorem r02_Max (A : Option Addr) (c : Nat) (l : List Rng) (w : World) (hc : l.length ≤ c) (hr : kRng.C w A l.length l) :
    Calls Tryz.prog 143 #[.slice A l.length c] w fun e w' => e = .returned (.tuple #[.int .i64 (maxL l).1, .bool (maxL l).2]) ∧ Bel w w' := by
  have HR := Lib.hid hr
  clear hr
  unfold maxL
  have hlen := takenL_len l
  generalize ht : takenL l = t at *
  have HT := Lib.hid ht
  clear ht
  by_cases h0 : 0 < t.length
  · obtain ⟨r, hr⟩ : ∃ r, t[t.length - 1]? = some r := ⟨t[t.length - 1], List.getElem?_eq_getElem (by omega)⟩
    have HN := Lib.hid hr
    rw [List.getLast?_eq_getElem?, hr]
    clear hr
    have h1 : (0 : Int) ≤ (t.length : Int) - 1 := by omega
    have H2 : ((t.length : Int) - 1).toNat = t.length - 1 := by omega
    have g1 : ((t.length : Int) == 0) = false := by rw [beq_eq_false_iff_ne]; omega
    go_enter Tryz.func143, Tryz.ntmps143
    go_wp2_with (go_at_call 127; refine (r02_TakenT _ _ _ _ hc HR.out HT.out).mono ?_; rintro e w0 ⟨A1, c1, rfl, hl1, hr1, HB0⟩; obtain ⟨ad, rfl, c0, c1⟩ := Rng.nth hr1 HN.out; clear hr1)
    go_ret2
    exact ⟨rfl, HB0⟩
  · obtain rfl : t = [] := List.eq_nil_of_length_eq_zero (by omega)
    go_enter Tryz.func143, Tryz.ntmps143
    go_wp2_with (go_at_call 127; refine (r02_TakenT _ _ _ _ hc HR.out HT.out).mono ?_; rintro e w0 ⟨A1, c1, rfl, hl1, hr1, HB0⟩; clear hr1)
    go_ret2
    exact ⟨rfl, HB0⟩
set_option maxHeartbeats 1000000 in
theorem r02_Alike (A B : Option Addr) (c d : Nat) (l m : List Rng) (w : World) (hr : kRng.C w A l.length l) (hs : kRng.C w B m.length m) :
    Calls Tryz.prog 74 #[.slice A l.length c, .slice B m.length d] w fun e w' => e = .returned (.bool (decide (l = m))) ∧ Bel w w' := by
  have hl := C_len hr
  have hm := C_len hs
  have HR := Lib.hid hr
  have HS := Lib.hid hs
  clear hr hs
  by_cases hne : l.length = m.length
  · have h0 : ((l.length : Int) != (m.length : Int)) = false := by simp [hne]
    have HF := Lib.hid (eqRng_eq l m)
    have HE := Lib.hid hne
    clear hne
    go_enter Tryz.func74, Tryz.ntmps74
    go_wp2
    go_loopw [5] (fun i wr => ∃ (k : Nat), k ≤ l.length ∧ i = .int .i64 k ∧ Bel w wr ∧ Hid (eqRng (l.drop k) (m.drop k) = decide (l = m))) (fun i _ => l.length - (intOf i).toNat)
    case atStart => exact ⟨0, by omega, rfl, inferInstance, Lib.hid (by simpa using HF.out)⟩
    case round =>
      obtain ⟨k, hk, rfl, HB, HX⟩ := hrel
      by_cases hlt : k < l.length
      · have hlt2 : k < m.length := by have := HE.out; omega
        obtain ⟨r, hr⟩ : ∃ r, l[k]? = some r := ⟨l[k], List.getElem?_eq_getElem hlt⟩
        obtain ⟨s, hs⟩ : ∃ r, m[k]? = some r := ⟨m[k], List.getElem?_eq_getElem hlt2⟩
        obtain ⟨ad, rfl, c0, c1⟩ := Rng.nth HR.out hr
        obtain ⟨bd, rfl, d0, d1⟩ := Rng.nth HS.out hs
        have HX' := HX.out
        rw [drop_at hr, drop_at hs, eqRng] at HX'
        clear hr hs HX
        replace c0 := HB.cell c0
        replace c1 := HB.cell c1
        replace d0 := HB.cell d0
        replace d1 := HB.cell d1
        cases hb : (!(r.lo == s.lo) || !(r.hi == s.hi)) <;> (rw [hb] at HX'; replace HX' := Lib.hid HX')
        · go_wp2
          go_quiet (fail)
          go_wp2
          go_roundw
          case rel => exact ⟨k + 1, by omega, by go_num, inferInstance, Lib.hid (by simpa using HX'.out)⟩
          case measure => simp [intOf]; omega
        · go_wp2
          go_quiet (fail)
          go_wp2
          go_ret
          exact ⟨ret_b (by simpa using HX'.out), inferInstance⟩
      · go_wp2
        go_ret
        have : k = l.length := by omega
        subst this
        exact ⟨ret_b (by have := HX.out; rw [List.drop_length, HE.out, List.drop_length] at this; exact this), HB⟩
  · have h0 : ((l.length : Int) != (m.length : Int)) = true := by simp; omega
    have HF := Lib.hid (show decide (l = m) = false from decide_eq_false (fun e => hne (by rw [e])))
    clear hne
    go_enter Tryz.func74, Tryz.ntmps74
    go_wp2
    go_ret
    exact ⟨ret_b HF.out.symm, inferInstance⟩
set_option maxHeartbeats 1000000 in
theorem r02_Cut (A : Option Addr) (c : Nat) (l : List Rng) (lo hi : Int) (w : World) (hc : l.length ≤ c) (hr : kRng.C w A l.length l) :
    Calls Tryz.prog 253 #[.slice A l.length c, .int .i64 lo, .int .i64 hi] w (RetS kRng (cutL lo hi (takenL l)) w) := by
  have HR := Lib.hid hr
  clear hr
  have hlen := takenL_len l
  generalize ht : takenL l = t at *
  have HT := Lib.hid ht
  clear ht
  go_enter Tryz.func253, Tryz.ntmps253
  go_wp2_with (go_at_call 127; refine (r02_TakenT _ _ _ _ hc HR.out HT.out).mono ?_; rintro e w0 ⟨A1, c1, rfl, hl1, hr1, HB0⟩; have HR1 := Lib.hid hr1; clear hr1)
  go_loopw [7, 8] (fun v i wr => ∃ (k : Nat) (out : List Rng), k ≤ t.length ∧ i = .int .i64 k ∧ out.length ≤ k ∧ AccR w0 wr v out ∧ Hid (out ++ cutL lo hi (t.drop k) = cutL lo hi t)) (fun _ i _ => t.length - (intOf i).toNat)
  case atStart => exact ⟨0, [], by omega, rfl, by simp, inferInstance, Lib.hid (by simp)⟩
  case round =>
    obtain ⟨k, out, hk, rfl, ho, HO, HX⟩ := hrel
    by_cases hlt : k < t.length
    · obtain ⟨r, hr⟩ : ∃ r, t[k]? = some r := ⟨t[k], List.getElem?_eq_getElem hlt⟩
      obtain ⟨ad, rfl, c0, c1⟩ := Rng.nth HR1.out hr
      have HX' := HX.out
      rw [drop_at hr] at HX'
      simp only [cutL, mxi, mni] at HX'
      clear hr HX
      replace c0 := HO.cell c0
      replace c1 := HO.cell c1
      by_cases h1 : r.lo < lo
      all_goals
        by_cases h2 : hi < r.hi
        all_goals
          simp only [h1, h2, if_true, if_false] at HX'
          split at HX' <;> (replace HX' := Lib.hid HX')
          · go_wp2_with (at_builtin; refine AccR.app HO rfl rfl rfl rfl (by simp) inferInstance (by omega) ?_; intro v1 w1 HO1 hk1; clear hk1)
            go_roundw
            case rel => exact ⟨k + 1, _, by omega, by go_num, by simp; omega, HO1, Lib.hid (by have := HX'.out; simpa using this)⟩
            case measure => simp [intOf]; omega
          · go_wp2
            go_roundw
            case rel => exact ⟨k + 1, out, by omega, by go_num, by omega, inferInstance, HX'⟩
            case measure => simp [intOf]; omega
    · go_wp2
      go_ret
      have : k = t.length := by omega
      subst this
      have hx := HX.out
      rw [List.drop_length, cutL, List.append_nil] at hx
      subst hx
      obtain ⟨A2, c2, rfl, h2, h3⟩ := Acc.reads HO
      exact ⟨A2, c2, rfl, h2, h3, HB0.trans HO.bel⟩
end Go.Proofs.YtkdedpofghlmoaaGreatDoor
