/- What is asked of a term by a letter: the walks of cons.asker's methods. No statement is proved here. -/
import Derived.Test.YtkdedpofghlmoaaGreatDoorD7
import Derived.Test.YtkdedpofghlmoaaGreatDoorS1
set_option linter.unusedVariables false
set_option linter.unusedSimpArgs false
namespace Go.Proofs.YtkdedpofghlmoaaGreatDoor
open Go.RowKit Go.Proofs.YtkdedpofghlmoaaGreatDoorW.PrintWords
theorem blk_cell0 {W : World} {k : Nat} {cs : Array Value} {t : TypeId} {fr : Nat × Nat} (h : W.heap[k]? = some (.cells cs t fr)) (j : Nat) : W.cell? ⟨k, j, none⟩ = cs[j]? := by
  simp [World.cell?, h]
/-- A variable of the call's own, read behind calls that leave what lay as it was. -/
theorem Bel.box {w W : World} {cs : Array Value} {t : TypeId} (h : Bel (w.alloc (.cells cs t)) W) {g : Nat} (hg : w.heap.size = g) (j : Nat) {v : Value} (hj : cs[j]? = some v) : W.cell? ⟨g, j, none⟩ = some v := by
  subst hg
  refine h.cell ?_
  rw [← hj]
  exact blk_cell0 (heap_alloc_new _ _) j
def numR (v : Int) (st : Bool) (n : Int) (m : Nat) (lo hi : Int) : Bool := decide (v = -1) && !st && decide (m = 0) && decide (lo ≤ n) && decide (n ≤ hi)
set_option maxHeartbeats 1000000 in
theorem cons_number (sl : Value) (v : Int) (st : Bool) (n : Int) (A : Option Addr) (m c : Nat) (lo hi : Int) (w : World) :
    Calls Tryz.prog 265 #[.agg #[sl], .agg #[.int .i64 v, .bool st, .int .i64 n, .slice A m c], .int .i64 lo, .int .i64 hi] w fun e w' => e = .returned (.bool (numR v st n m lo hi)) ∧ Bel w w' := by
  unfold numR
  by_cases h1 : v = -1
  · subst h1
    cases st with
    | true => go_enter Tryz.func265, Tryz.ntmps265; go_wp2; go_ret; exact ⟨ret_b (by simp), inferInstance⟩
    | false =>
      by_cases h2 : m = 0
      · subst h2
        by_cases h3 : lo ≤ n
        · by_cases h4 : n ≤ hi
          · go_enter Tryz.func265, Tryz.ntmps265; go_wp2; go_ret; exact ⟨ret_b (by simp [h3, h4]), inferInstance⟩
          · go_enter Tryz.func265, Tryz.ntmps265; go_wp2; go_ret; exact ⟨ret_b (by simp [h3, h4]), inferInstance⟩
        · go_enter Tryz.func265, Tryz.ntmps265; go_wp2; go_ret; exact ⟨ret_b (by simp; omega), inferInstance⟩
      · have h2' : ((m : Int) == 0) = false := by simpa using h2
        go_enter Tryz.func265, Tryz.ntmps265; go_wp2; go_ret; exact ⟨ret_b (by simp [h2]), inferInstance⟩
  · have h1' : (v == -1) = false := by simpa using h1
    go_enter Tryz.func265, Tryz.ntmps265; go_wp2; go_ret; exact ⟨ret_b (by simp [h1]), inferInstance⟩
def varR (ks : List Bool) (set : Bool) (v : Int) (st : Bool) (n : Int) (m : Nat) : Bool := decide (0 ≤ v) && decide (v < ks.length) && (ks.getD v.toNat false == set) && !st && decide (n = 0) && decide (m = 0)
set_option maxHeartbeats 1000000 in
theorem cons_variable (B : Option Addr) (d : Nat) (ks : List Bool) (set : Bool) (v : Int) (st : Bool) (n : Int) (A : Option Addr) (m c : Nat) (w : World) (hk : Kd.bool.C w B ks.length ks) :
    Calls Tryz.prog 267 #[.agg #[.slice B ks.length d], .agg #[.int .i64 v, .bool st, .int .i64 n, .slice A m c], .bool set] w fun e w' => e = .returned (.bool (varR ks set v st n m)) ∧ Bel w w' := by
  unfold varR
  have HK := Lib.hid hk
  clear hk
  by_cases h1 : 0 ≤ v
  · by_cases h2 : v < ks.length
    · obtain ⟨k, rfl⟩ : ∃ k : Nat, v = (k : Int) := ⟨v.toNat, by omega⟩
      obtain ⟨x, hx⟩ : ∃ x, ks[k]? = some x := ⟨ks[k]'(by omega), List.getElem?_eq_getElem (by omega)⟩
      have HG := Lib.hid (show ks.getD k false = x by rw [List.getD_eq_getElem?_getD, hx]; rfl)
      obtain ⟨bd, rfl, c0⟩ := Bool.nth HK.out hx
      clear hx
      replace c0 : ∀ (W : World) [Bel w W], W.cell? (bd.add k) = some (.bool x) := fun W h => h.cell c0
      rw [Int.toNat_natCast, HG.out]
      cases hs : (x == set) with
      | false => go_enter Tryz.func267, Tryz.ntmps267; go_wp2; go_ret; exact ⟨ret_b (by simp [hs]), inferInstance⟩
      | true =>
        cases st with
        | true => go_enter Tryz.func267, Tryz.ntmps267; go_wp2; go_ret; exact ⟨ret_b (by simp [hs]), inferInstance⟩
        | false =>
          by_cases h3 : n = 0
          · subst h3
            by_cases h4 : m = 0
            · subst h4
              go_enter Tryz.func267, Tryz.ntmps267; go_wp2; go_ret; exact ⟨ret_b (by simp [hs]; omega), inferInstance⟩
            · have h4' : ((m : Int) == 0) = false := by simpa using h4
              go_enter Tryz.func267, Tryz.ntmps267; go_wp2; go_ret; exact ⟨ret_b (by simp [h4]), inferInstance⟩
          · have h3' : (n == 0) = false := by simpa using h3
            go_enter Tryz.func267, Tryz.ntmps267; go_wp2; go_ret; exact ⟨ret_b (by simp [h3]), inferInstance⟩
    · go_enter Tryz.func267, Tryz.ntmps267; go_wp2; go_ret; exact ⟨ret_b (by simp; omega), inferInstance⟩
  · go_enter Tryz.func267, Tryz.ntmps267; go_wp2; go_ret; exact ⟨ret_b (by simp; omega), inferInstance⟩
theorem has_all (v : Int) : hasL [⟨-1000000, 1000000⟩] v = inB v := by
  have ht : takenL [⟨-1000000, 1000000⟩] = [⟨-1000000, 1000000⟩] := by decide
  unfold hasL inB
  rw [ht]
  simp only [nextL, mxi]
  by_cases h1 : v ≤ 1000000
  · by_cases h2 : -1000000 ≤ v
    · simp [h1, h2]; omega
    · simp [h1, h2]; omega
  · simp [h1]
theorem isIn {v : Int} {b : Bool} (hb : Hid (inB v = b)) (w : World) : Calls Tryz.prog 295 #[.slice (some ⟨w.heap.size, 0, none⟩) 1 1, .int .i64 v] (w.alloc (.cells #[.int .i64 (-1000000), .int .i64 1000000] 101)) fun e w' => e = .returned (.bool b) ∧ Bel w w' := by
  have h := dom_Has (some ⟨w.heap.size, 0, none⟩) 1 [⟨-1000000, 1000000⟩] v _ (by simp) (lit_Rng w w (-1000000) 1000000)
  rw [has_all, hb.out] at h
  exact h.mono (fun e w' h => ⟨h.1, Bel.trans inferInstance h.2⟩)
set_option maxHeartbeats 1000000 in
theorem cons_isSet (A : Option Addr) (c : Nat) (l : List Int) (w : World) (hr : (Kd.int .i64).C w A l.length l) :
    Calls Tryz.prog 266 #[.slice A l.length c] w fun e w' => e = .returned (.bool (SetB l)) ∧ Bel w w' := by
  have HR := Lib.hid hr
  clear hr
  by_cases h0 : 64 < (l.length : Int)
  · have HF := Lib.hid (show SetB l = false by unfold SetB; rw [if_pos (by omega)])
    go_enter Tryz.func266, Tryz.ntmps266
    go_wp2
    go_ret
    exact ⟨ret_b HF.out.symm, inferInstance⟩
  · have HF := Lib.hid (show SetB l = setFrom (-1000001) l by unfold SetB; rw [if_neg (by omega)])
    go_enter Tryz.func266, Tryz.ntmps266
    go_wp2
    go_loopw [10] (fun i wr => ∃ (k : Nat) (p : Int), k ≤ l.length ∧ i = .int .i64 k ∧ Hid (k = 0 ∧ p = -1000001 ∨ ∃ j, k = j + 1 ∧ l[j]? = some p) ∧ Hid (setFrom p (l.drop k) = SetB l) ∧ Bel w wr) (fun i _ => l.length - (intOf i).toNat)
    case atStart => exact ⟨0, -1000001, by omega, rfl, Lib.hid (.inl ⟨rfl, rfl⟩), Lib.hid (by rw [HF.out]; rfl), inferInstance⟩
    case round =>
      obtain ⟨k, p, hk, rfl, HP, HX, HB⟩ := hrel
      by_cases hlt : k < l.length
      · obtain ⟨v, hv⟩ : ∃ v, l[k]? = some v := ⟨l[k], List.getElem?_eq_getElem hlt⟩
        have HX' := HX.out
        rw [drop_at hv, setFrom] at HX'
        have HV := Lib.hid hv
        clear HX hv
        obtain ⟨ad, rfl, c0⟩ := Int.nth HR.out HV.out
        replace c0 := HB.cell c0
        by_cases hin : -1000000 ≤ v ∧ v ≤ 1000000
        · have HAV := Lib.hid (show inB v = true by simp [inB, hin.1, hin.2])
          rcases HP.out with ⟨hk0, hp⟩ | ⟨j, hj0, hj⟩
          · have hk1 : ¬ (0 : Int) < (k : Int) := by omega
            have hk2 : decide ((0 : Int) < (k : Int)) = false := by simpa using hk1
            rw [if_neg (by omega)] at HX'
            replace HX' := Lib.hid HX'
            clear hk0 hp HP
            go_wp2_with (go_at_call 295; refine (isIn HAV _).mono ?_; rintro e w1 ⟨rfl, HB1⟩)
            go_roundw
            case rel => exact ⟨k + 1, v, by omega, by go_num, Lib.hid (.inr ⟨k, rfl, HV.out⟩), HX', HB.trans HB1⟩
            case measure => simp [intOf]; omega
          · have hk1 : 0 < (k : Int) := by omega
            have c1 : wr.cell? (ad.add (k - 1)) = some (.int .i64 p) := by
              obtain ⟨ad', e', c1⟩ := Int.nth HR.out hj
              cases e'
              rw [show k - 1 = j by omega]
              exact HB.cell c1
            replace c1 : ∀ (W : World) [Bel wr W], W.cell? (ad.add (k - 1)) = some (.int .i64 p) := fun W h => h.cell c1
            clear hj0 hj HP
            by_cases hc : v ≤ p
            · rw [if_pos (by omega)] at HX'
              replace HX' := Lib.hid HX'
              go_wp2_with (go_at_call 295; refine (isIn HAV _).mono ?_; rintro e w1 ⟨rfl, HB1⟩)
              go_ret
              exact ⟨ret_b HX'.out, HB.trans HB1⟩
            · rw [if_neg (by omega)] at HX'
              replace HX' := Lib.hid HX'
              go_wp2_with (go_at_call 295; refine (isIn HAV _).mono ?_; rintro e w1 ⟨rfl, HB1⟩)
              go_roundw
              case rel => exact ⟨k + 1, v, by omega, by go_num, Lib.hid (.inr ⟨k, rfl, HV.out⟩), HX', HB.trans HB1⟩
              case measure => simp [intOf]; omega
        · have HAV := Lib.hid (show inB v = false by simp only [inB, Bool.and_eq_false_iff, decide_eq_false_iff_not]; omega)
          rw [if_pos (by omega)] at HX'
          replace HX' := Lib.hid HX'
          go_wp2_with (go_at_call 295; refine (isIn HAV _).mono ?_; rintro e w1 ⟨rfl, HB1⟩)
          go_ret
          exact ⟨ret_b HX'.out, HB.trans HB1⟩
      · go_wp2
        go_ret
        have : k = l.length := by omega
        subst this
        exact ⟨ret_b (by have := HX.out; rw [List.drop_length] at this; exact this), inferInstance⟩
end Go.Proofs.YtkdedpofghlmoaaGreatDoor
