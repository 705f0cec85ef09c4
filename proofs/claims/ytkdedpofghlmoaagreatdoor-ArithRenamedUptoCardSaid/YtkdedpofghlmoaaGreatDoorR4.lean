/- The walk of the reference's Values of ranges. No statement is proved here. -/
import Derived.Test.YtkdedpofghlmoaaGreatDoorR3
set_option linter.unusedVariables false
set_option linter.unusedSimpArgs false
namespace Go.Proofs.YtkdedpofghlmoaaGreatDoor
open Go.RowKit Go.Proofs.YtkdedpofghlmoaaGreatDoorW.PrintWords
/-- The whole numbers from a to b. -/
def irange (a b : Int) : List Int := (List.range (b + 1 - a).toNat).map fun (i : Nat) => a + (i : Int)
theorem irange_cons {a b : Int} (h : a ≤ b) : irange a b = a :: irange (a + 1) b := by
  unfold irange
  rw [show (b + 1 - a).toNat = (b + 1 - (a + 1)).toNat + 1 by omega, List.range_succ_eq_map, List.map_cons, List.map_map]
  congr 1
  · simp
  · apply List.map_congr_left
    intro i _
    simp; omega
theorem irange_nil {a b : Int} (h : b < a) : irange a b = [] := by
  unfold irange
  rw [show (b + 1 - a).toNat = 0 by omega]
  rfl
theorem irange_len (a b : Int) : (irange a b).length = (b + 1 - a).toNat := by simp [irange]
theorem mem_irange {a b v : Int} : v ∈ irange a b ↔ a ≤ v ∧ v ≤ b := by
  unfold irange
  simp only [List.mem_map, List.mem_range]
  constructor
  · rintro ⟨i, hi, rfl⟩; omega
  · rintro ⟨h1, h2⟩; exact ⟨(v - a).toNat, by omega, by omega⟩
/-- All values of ranges, range by range. -/
def vals (l : List Rng) : List Int := l.flatMap fun r => irange r.lo r.hi
theorem vals_cons (r : Rng) (l : List Rng) : vals (r :: l) = irange r.lo r.hi ++ vals l := by simp [vals]
theorem vals_len (l : List Rng) (h : ∀ r ∈ l, -1000000 ≤ r.lo ∧ r.lo ≤ r.hi ∧ r.hi ≤ 1000000) : ((vals l).length : Int) = sizeL l := by
  induction l with
  | nil => simp [vals, sizeL]
  | cons r l ih =>
    have h1 := h r (by simp)
    have h2 := ih (fun x hx => h x (by simp [hx]))
    rw [vals_cons, List.length_append, irange_len]
    simp only [sizeL, List.map_cons, List.sum_cons] at h2 ⊢
    omega
set_option maxHeartbeats 2000000 in
theorem r02_Values (A : Option Addr) (c : Nat) (l : List Rng) (most : Int) (w : World) (hc : l.length ≤ c) (hr : kRng.C w A l.length l) :
    Calls Tryz.prog 124 #[.slice A l.length c, .int .i64 most] w (RetO (Kd.int .i64) 2 ((vals (takenL l)).take most.toNat) w) := by
  have HR := Lib.hid hr
  clear hr
  have hlen := takenL_len l
  have HIN := Lib.hid (takenL_in l)
  generalize ht : takenL l = t at *
  have HT := Lib.hid ht
  clear ht
  have hv0 := vals_len t HIN.out
  have hv1 := sizeL_bound t HIN.out
  have HVL := Lib.hid (show (vals t).length ≤ 8192004096 by omega)
  clear hv0 hv1
  go_enter Tryz.func124, Tryz.ntmps124
  go_wp2_with (go_at_call 127; refine (r02_TakenT _ _ _ _ hc HR.out HT.out).mono ?_; rintro e w0 ⟨A1, c1, rfl, hl1, hr1, HB0⟩; have HR1 := Lib.hid hr1; clear hr1)
  go_loopw [5, 6, 7] (fun v i _ wr => ∃ (k : Nat) (out : List Int), k ≤ t.length ∧ i = .int .i64 k ∧ AccI w0 wr v out ∧ Hid (out ++ (vals (t.drop k)).take (most.toNat - out.length) = (vals t).take most.toNat)) (fun _ i _ _ => t.length - (intOf i).toNat)
  case atStart => exact ⟨0, [], by omega, rfl, inferInstance, Lib.hid (by simp)⟩
  case round =>
    obtain ⟨k, out, hk, rfl, HO, HX⟩ := hrel
    by_cases hlt : k < t.length
    · obtain ⟨r, hr⟩ : ∃ r, t[k]? = some r := ⟨t[k], List.getElem?_eq_getElem hlt⟩
      obtain ⟨ad, rfl, c0, c1⟩ := Rng.nth HR1.out hr
      obtain ⟨b0, b1, b2⟩ := HIN.out r (List.mem_of_getElem? hr)
      have HX' := HX.out
      rw [drop_at hr, vals_cons] at HX'
      replace HX' := Lib.hid HX'
      clear hr HX
      have C1 := Lib.hid c1
      replace c0 := HO.cell c0
      replace c1 := HO.cell c1
      obtain ⟨wo, rfl⟩ : ∃ wo : World, wo = wr := ⟨_, rfl⟩
      go_wp2
      go_loopw [5, 7] (fun v x wr => ∃ (out : List Int) (n : Int), r.lo ≤ n ∧ n ≤ r.hi + 1 ∧ x = .int .i64 n ∧ AccI w0 wr v out ∧ Hid (out ++ (irange n r.hi ++ vals (t.drop (k + 1))).take (most.toNat - out.length) = (vals t).take most.toNat)) (fun _ x _ => (r.hi + 1 - intOf x).toNat)
      case atStart => exact ⟨out, r.lo, by omega, by omega, rfl, HO, HX'⟩
      case round =>
        clear HX' HO c0 c1
        obtain ⟨out, n, hn0, hn1, rfl, HO, HX⟩ := hrel
        obtain ⟨Av, cv, rfl⟩ := HO.len
        have c1 := HO.cell C1.out
        by_cases h1 : n ≤ r.hi
        · by_cases h2 : (out.length : Int) < most
          · have HX' := HX.out
            rw [irange_cons h1, show most.toNat - out.length = (most.toNat - (out.length + 1)) + 1 by omega, List.cons_append, List.take_succ_cons] at HX'
            have hol : out.length ≤ 8192004096 := by
              have h3 := congrArg List.length HX'
              have := HVL.out
              simp only [List.length_append, List.length_take] at h3
              omega
            replace HX' := Lib.hid HX'
            clear HX
            go_wp2_with (at_builtin; refine AccI.app HO rfl rfl rfl rfl (by simp) inferInstance (by omega) ?_; intro v1 w1 HO1 hk1; clear hk1)
            go_roundw
            case rel => exact ⟨out ++ [n], n + 1, by omega, by omega, rfl, HO1, Lib.hid (by have := HX'.out; rw [List.length_append, List.length_singleton, List.append_assoc]; exact this)⟩
            case measure => simp [intOf]; omega
          · go_wp2
            go_roundw
            case rel => exact ⟨k + 1, out, by omega, by go_num, HO, Lib.hid (by have := HX.out; rw [show most.toNat - out.length = 0 by omega] at this ⊢; simpa using this)⟩
            case measure => simp [intOf]; omega
        · go_wp2
          go_roundw
          case rel => exact ⟨k + 1, out, by omega, by go_num, HO, Lib.hid (by have := HX.out; rwa [irange_nil (by omega), List.nil_append] at this)⟩
          case measure => simp [intOf]; omega
    · go_wp2
      go_ret
      have : k = t.length := by omega
      subst this
      have hx := HX.out
      rw [List.drop_length] at hx
      simp only [vals, List.flatMap_nil, List.take_nil, List.append_nil] at hx
      subst hx
      exact ⟨_, rfl, ⟨Kd.R_lower HO.own HB0.out.size, HB0.trans HO.bel⟩⟩
end Go.Proofs.YtkdedpofghlmoaaGreatDoor
