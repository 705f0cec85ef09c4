/- The walks of sets.Set, as, In, and of slices.BinarySearch, Clone of whole numbers. No statement is proved here. -/
import Derived.Test.YtkdedpofghlmoaaGreatDoorB2
import Derived.WalkSpells
import Derived.IntWalk
set_option linter.unusedVariables false
set_option linter.unusedSimpArgs false
namespace Go.Proofs.YtkdedpofghlmoaaGreatDoor
open Go.RowKit Go.Proofs.YtkdedpofghlmoaaGreatDoorW.PrintWords
def setFrom (p : Int) : List Int → Bool
  | [] => true
  | v :: l => if v < -1000000 ∨ v > 1000000 ∨ p ≥ v then false else setFrom v l
def SetB (l : List Int) : Bool := if l.length > 64 then false else setFrom (-1000001) l
set_option maxHeartbeats 1000000 in
theorem sets_Set (A : Option Addr) (c : Nat) (l : List Int) (w : World) (hr : (Kd.int .i64).C w A l.length l) :
    Calls Tryz.prog 157 #[.slice A l.length c] w fun e w' => e = .returned (.bool (SetB l)) ∧ Bel w w' := by
  have HR := Lib.hid hr
  clear hr
  by_cases h0 : 64 < (l.length : Int)
  · have HF := Lib.hid (show SetB l = false by unfold SetB; rw [if_pos (by omega)])
    go_enter Tryz.func157, Tryz.ntmps157
    go_wp2
    go_ret
    exact ⟨ret_b HF.out.symm, inferInstance⟩
  · have HF := Lib.hid (show SetB l = setFrom (-1000001) l by unfold SetB; rw [if_neg (by omega)])
    go_enter Tryz.func157, Tryz.ntmps157
    go_wp2
    go_loopw [3, 4, 10] (fun _ _ i wr => ∃ (k : Nat) (p : Int), k ≤ l.length ∧ i = .int .i64 k ∧ Hid (k = 0 ∧ p = -1000001 ∨ ∃ j, k = j + 1 ∧ l[j]? = some p) ∧ Hid (setFrom p (l.drop k) = SetB l) ∧ Bel w wr) (fun _ _ i _ => l.length - (intOf i).toNat)
    case atStart => exact ⟨0, -1000001, by omega, rfl, Lib.hid (.inl ⟨rfl, rfl⟩), Lib.hid (by rw [HF.out]; rfl), inferInstance⟩
    case round =>
      obtain ⟨k, p, hk, rfl, HP, HX, HB⟩ := hrel
      by_cases hlt : k < l.length
      · obtain ⟨v, hv⟩ : ∃ v, l[k]? = some v := ⟨l[k], List.getElem?_eq_getElem hlt⟩
        have HX' := HX.out
        rw [drop_at hv, setFrom] at HX'
        have HV := Lib.hid hv
        clear HX hv
        obtain ⟨ad, rfl, c0⟩ := Int.nth HR.out HV.out
        replace c0 := HB.cell c0
        rcases HP.out with ⟨hk0, hp⟩ | ⟨j, hj0, hj⟩
        · have hk1 : (k : Int) ≤ 0 := by omega
          have hp' : p ≤ -1000001 ∧ -1000001 ≤ p := by omega
          clear hk0 hp HP
          by_cases hc : v < -1000000 ∨ v > 1000000 ∨ p ≥ v
          · rw [if_pos hc] at HX'
            replace HX' := Lib.hid HX'
            go_wp2
            all_goals (go_ret; exact ⟨ret_b HX'.out, inferInstance⟩)
          · rw [if_neg hc] at HX'
            replace HX' := Lib.hid HX'
            go_wp2
            go_roundw
            case rel => exact ⟨k + 1, v, by omega, by go_num, Lib.hid (.inr ⟨k, rfl, HV.out⟩), HX', inferInstance⟩
            case measure => simp [intOf]; omega
        · have hk1 : 0 < (k : Int) := by omega
          have c1 : wr.cell? (ad.add (k - 1)) = some (.int .i64 p) := by
            obtain ⟨ad', e', c1⟩ := Int.nth HR.out hj
            cases e'
            rw [show k - 1 = j by omega]
            exact HB.cell c1
          clear hj0 hj HP
          by_cases hc : v < -1000000 ∨ v > 1000000 ∨ p ≥ v
          · rw [if_pos hc] at HX'
            replace HX' := Lib.hid HX'
            go_wp2
            all_goals (go_ret; exact ⟨ret_b HX'.out, inferInstance⟩)
          · rw [if_neg hc] at HX'
            replace HX' := Lib.hid HX'
            go_wp2
            go_roundw
            case rel => exact ⟨k + 1, v, by omega, by go_num, Lib.hid (.inr ⟨k, rfl, HV.out⟩), HX', inferInstance⟩
            case measure => simp [intOf]; omega
      · go_wp2
        go_ret
        have : k = l.length := by omega
        subst this
        exact ⟨ret_b (by have := HX.out; rw [List.drop_length] at this; exact this), inferInstance⟩
def asL (l : List Int) : List Int := if SetB l then l else []
theorem sets_as (A : Option Addr) (c : Nat) (l : List Int) (w : World) (hc : l.length ≤ c) (hr : (Kd.int .i64).C w A l.length l) :
    Calls Tryz.prog 161 #[.slice A l.length c] w (RetS (Kd.int .i64) (asL l) w) := by
  have HR := Lib.hid hr
  clear hr
  cases h0 : SetB l
  · have HF := Lib.hid (show asL l = [] by simp [asL, h0])
    have H0 := Lib.hid h0
    clear h0
    go_enter Tryz.func161, Tryz.ntmps161
    go_wp2_with (go_at_call 157; refine (sets_Set _ _ _ _ HR.out).mono ?_; rintro e w1 ⟨rfl, HB⟩; rw [H0.out])
    go_ret
    exact ⟨none, 0, by rw [HF.out]; rfl, by rw [HF.out]; simp, by rw [HF.out]; exact Kd.C_nil _ _, HB⟩
  · have HF := Lib.hid (show asL l = l by simp [asL, h0])
    have H0 := Lib.hid h0
    clear h0
    go_enter Tryz.func161, Tryz.ntmps161
    go_wp2_with (go_at_call 157; refine (sets_Set _ _ _ _ HR.out).mono ?_; rintro e w1 ⟨rfl, HB⟩; rw [H0.out])
    go_ret
    exact ⟨A, c, by rw [HF.out]; rfl, by rw [HF.out]; exact hc, by rw [HF.out]; exact Kd.now HR.out HB, HB⟩
theorem setFrom_sorted : ∀ (l : List Int) (p : Int), setFrom p l = true → (∀ v ∈ l, p < v ∧ -1000000 ≤ v ∧ v ≤ 1000000) ∧ l.Pairwise (· < ·)
  | [], _, _ => ⟨by simp, List.Pairwise.nil⟩
  | x :: l, p, h => by
    rw [setFrom] at h
    split at h
    · exact absurd h (by simp)
    · rename_i hn
      obtain ⟨h1, h2⟩ := setFrom_sorted l x h
      refine ⟨fun v hv => ?_, List.Pairwise.cons (fun v hv => (h1 v hv).1) h2⟩
      rcases List.mem_cons.1 hv with rfl | hv
      · omega
      · have := h1 v hv; omega
/-- What is taken as a set: rising, of few numbers, each within bounds. -/
theorem asL_spec (l : List Int) : (asL l).length ≤ 64 ∧ (∀ v ∈ asL l, -1000000 ≤ v ∧ v ≤ 1000000) ∧ (asL l).Pairwise (· < ·) := by
  unfold asL
  split
  · rename_i h
    unfold SetB at h
    split at h
    · exact absurd h (by simp)
    · obtain ⟨h1, h2⟩ := setFrom_sorted l _ h
      exact ⟨by omega, fun v hv => by have := h1 v hv; omega, h2⟩
  · simp
theorem isNaN232 (v : Int) (w : World) : Calls Tryz.prog 232 #[.int .i64 v] w fun e w' => e = .returned (.bool false) ∧ Bel w w' := by
  go_enter Tryz.func232, Tryz.ntmps232
  go_wp2
  go_ret
  exact ⟨by simp, inferInstance⟩
theorem less231 (a b : Int) (w : World) : Calls Tryz.prog 231 #[.int .i64 a, .int .i64 b] w fun e w' => e = .returned (.bool (decide (a < b))) ∧ Bel w w' := by
  go_enter Tryz.func231, Tryz.ntmps231
  go_wp2
  go_ret
  exact ⟨by simp, inferInstance⟩
set_option maxHeartbeats 1000000 in
theorem bsearch (A : Option Addr) (c : Nat) (l : List Int) (t : Int) (w : World) (hr : (Kd.int .i64).C w A l.length l) (hs : l.Pairwise (· < ·)) (hl : l.length ≤ 64) :
    Calls Tryz.prog 160 #[.slice A l.length c, .int .i64 t] w fun e w' => (∃ i, e = .returned (.tuple #[.int .i64 i, .bool (decide (t ∈ l))])) ∧ Bel w w' := by
  have HR := Lib.hid hr
  have HS := Lib.hid hs
  clear hr hs
  go_enter Tryz.func160, Tryz.ntmps160
  go_wp2_with fail
  go_loopw [7, 8, 9] (fun i j _ wr => ∃ (a b : Nat) (x y : Int), Hid (a ≤ b ∧ b ≤ l.length ∧ x = a ∧ y = b) ∧ i = .int .i64 x ∧ j = .int .i64 y ∧ Hid (∀ x ∈ l.take a, x < t) ∧ Hid (∀ x ∈ l.drop b, t ≤ x) ∧ Bel w wr) (fun i j _ _ => (intOf j).toNat - (intOf i).toNat)
  case atStart => exact ⟨0, l.length, 0, l.length, Lib.hid ⟨by omega, by omega, rfl, rfl⟩, rfl, rfl, Lib.hid (by simp), Lib.hid (by simp), inferInstance⟩
  case round =>
    obtain ⟨a, b, x, y, HAB, rfl, rfl, HL, HU, HB⟩ := hrel
    by_cases hlt : x < y
    · have hm : IntKind.i64.wrap (IntKind.u64.wrap (wrap64 (x + y)) / 2) = (((a + b) / 2 : Nat) : Int) := by
        obtain ⟨h1, h2, rfl, rfl⟩ := HAB.out
        rw [IntWalk.wrap64_in _ (by omega), IntWalk.u64_in _ (by omega), IntWalk.i64_in _ (by omega)]
        omega
      have HM := Lib.hid (show a ≤ (a + b) / 2 ∧ (a + b) / 2 < b by obtain ⟨h1, h2, rfl, rfl⟩ := HAB.out; omega)
      generalize (a + b) / 2 = m at *
      have hml : m < l.length := by have := HM.out; have := HAB.out; omega
      obtain ⟨v, hv⟩ : ∃ v, l[m]? = some v := ⟨l[m], List.getElem?_eq_getElem hml⟩
      have HV := Lib.hid hv
      clear hv
      obtain ⟨ad, rfl, c0⟩ := Int.nth HR.out HV.out
      replace c0 := HB.cell c0
      have HTK : Hid (l.take (m + 1) = l.take m ++ [v]) := Lib.hid (by rw [List.take_add_one, HV.out]; rfl)
      by_cases hvt : v < t
      · go_wp2_with (go_at_call 231; refine (less231 _ _ _).mono ?_; rintro e w1 ⟨rfl, HB1⟩)
        go_roundw
        case rel =>
          refine ⟨m + 1, b, _, y, Lib.hid ⟨by have := HM.out; omega, HAB.out.2.1, by go_num, HAB.out.2.2.2⟩, rfl, rfl, Lib.hid ?_, HU, HB.trans HB1⟩
          intro x hx
          obtain ⟨j, hj, rfl⟩ := List.getElem_of_mem hx
          have hjm : j < m + 1 := by simp at hj; omega
          rw [List.getElem_take]
          rcases Nat.lt_or_ge j m with h1 | h1
          · have := List.pairwise_iff_getElem.1 HS.out j m (by omega) hml h1
            have hv2 : l[m] = v := by have := HV.out; rw [List.getElem?_eq_getElem hml] at this; exact Option.some.inj this
            omega
          · obtain rfl : j = m := by omega
            have hv2 : l[j] = v := by have := HV.out; rw [List.getElem?_eq_getElem hml] at this; exact Option.some.inj this
            omega
        case measure => obtain ⟨h1, h2, rfl, rfl⟩ := HAB.out; have := HM.out; simp [intOf]; omega
      · go_wp2_with (go_at_call 231; refine (less231 _ _ _).mono ?_; rintro e w1 ⟨rfl, HB1⟩)
        go_roundw
        case rel =>
          refine ⟨a, m, x, _, Lib.hid ⟨HM.out.1, by omega, HAB.out.2.2.1, rfl⟩, rfl, rfl, HL, Lib.hid ?_, HB.trans HB1⟩
          intro x hx
          obtain ⟨j, hj, rfl⟩ := List.getElem_of_mem hx
          rw [List.getElem_drop]
          have hv2 : l[m] = v := by have := HV.out; rw [List.getElem?_eq_getElem hml] at this; exact Option.some.inj this
          simp only [List.length_drop] at hj
          rcases Nat.eq_zero_or_pos j with rfl | h1
          · simp only [Nat.add_zero]; omega
          · have := List.pairwise_iff_getElem.1 HS.out m (m + j) hml (by omega) (by omega)
            omega
        case measure => obtain ⟨h1, h2, rfl, rfl⟩ := HAB.out; have := HM.out; simp [intOf]; omega
    · have hab : a = b := by obtain ⟨h1, h2, rfl, rfl⟩ := HAB.out; omega
      subst hab
      have HXA := Lib.hid HAB.out.2.2.1
      have HXB := Lib.hid HAB.out.2.2.2
      have hal := HAB.out.2.1
      clear HAB hlt
      have hmem : t ∈ l ↔ l[a]? = some t := by
        constructor
        · intro hm
          rw [← List.take_append_drop a l] at hm
          rcases List.mem_append.1 hm with hm | hm
          · exact absurd (HL.out t hm) (by omega)
          · cases hd : l.drop a with
            | nil => rw [hd] at hm; cases hm
            | cons z s =>
              have hz : l[a]? = some z := by rw [← List.head?_drop, hd]; rfl
              rw [hz]
              rw [hd] at hm
              rcases List.mem_cons.1 hm with rfl | hm
              · rfl
              · have h1 := HU.out z (by rw [hd]; simp)
                have h2 : (z :: s).Pairwise (· < ·) := hd ▸ HS.out.drop
                have := (List.pairwise_cons.1 h2).1 t hm
                omega
        · intro hm; exact List.mem_of_getElem? hm
      by_cases hlt : a < l.length
      · obtain ⟨v, hv⟩ : ∃ v, l[a]? = some v := ⟨l[a], List.getElem?_eq_getElem hlt⟩
        have HD := Lib.hid (show decide (t ∈ l) = (v == t) by rw [Bool.eq_iff_iff]; simp [hmem, hv])
        obtain ⟨ad, rfl, c0⟩ := Int.nth HR.out hv
        clear hv hmem
        replace c0 := HB.cell c0
        obtain rfl : x = a := HXA.out
        have hyx : ¬ (a : Int) < y := by have := HXB.out; omega
        cases hvt : v == t <;> (rw [hvt] at HD; clear HXA)
        all_goals
          go_wp2_with (go_at_call 232; refine (isNaN232 _ _).mono ?_; rintro e w1 ⟨rfl, HB1⟩)
          go_ret2
          exact ⟨⟨a, by rw [HD.out]; rfl⟩, by first | exact HB.trans HB1 | exact HB⟩
      · have HD := Lib.hid (show decide (t ∈ l) = false from decide_eq_false (fun hm => by rw [hmem, List.getElem?_eq_none (by omega)] at hm; cases hm))
        clear hmem
        obtain rfl : x = a := HXA.out
        have hyx : ¬ (a : Int) < y := by have := HXB.out; omega
        clear HXA
        go_wp2
        go_ret2
        exact ⟨⟨a, by rw [HD.out]; rfl⟩, HB⟩
def inL (v : Int) (l : List Int) : Bool := decide (v ∈ asL l)
theorem sets_In (v : Int) (A : Option Addr) (c : Nat) (l : List Int) (w : World) (hc : l.length ≤ c) (hr : (Kd.int .i64).C w A l.length l) :
    Calls Tryz.prog 94 #[.int .i64 v, .slice A l.length c] w fun e w' => e = .returned (.bool (inL v l)) ∧ Bel w w' := by
  have HR := Lib.hid hr
  clear hr
  have HS := Lib.hid (asL_spec l)
  go_enter Tryz.func94, Tryz.ntmps94
  go_wp2_with fail
  refine (sets_as _ _ _ _ hc HR.out).mono ?_
  rintro e w1 ⟨A1, c1, rfl, hl1, hr1, HB1⟩
  go_wp2_with fail
  refine (bsearch _ _ _ _ _ hr1 HS.out.2.2 HS.out.1).mono ?_
  rintro e w2 ⟨⟨i, rfl⟩, HB2⟩
  clear hr1
  go_wp2
  go_ret
  exact ⟨rfl, HB1.trans HB2⟩
set_option maxHeartbeats 400000 in
theorem clone_I (A : Option Addr) (c : Nat) (l : List Int) (w : World) (hr : (Kd.int .i64).C w A l.length l) (hl : l.length ≤ 17592186044416) :
    Calls Tryz.prog 163 #[.slice A l.length c] w (RetO (Kd.int .i64) 2 l w) := by
  cases A with
  | none =>
    obtain rfl := C_none hr
    have h1 := fun w => Lib.run_eql_slice_nil (P := Tryz.prog) w 47 2 none 0 c 0 0 Tryz.underlying47
    clear hr
    go_enter Tryz.func163, Tryz.ntmps163
    go_wp2
    go_ret
    exact ⟨.slice none 0 0, rfl, inferInstance⟩
  | some ad =>
    have HR := Lib.hid hr
    have h1 := fun w => Lib.run_eql_slice_nil (P := Tryz.prog) w 47 2 (some ad) l.length c 0 0 Tryz.underlying47
    clear hr
    go_enter Tryz.func163, Tryz.ntmps163
    go_wp2_with (at_builtin; refine AccI.appRow (w0 := w) (Acc.lit0 inferInstance) rfl rfl rfl rfl inferInstance (Kd.now HR.out inferInstance) (by simp only [List.length_nil]; omega) ?_; intro v1 w1 HO1 hk1; clear hk1)
    go_ret
    exact ⟨_, rfl, by simpa using HO1⟩
end Go.Proofs.YtkdedpofghlmoaaGreatDoor
