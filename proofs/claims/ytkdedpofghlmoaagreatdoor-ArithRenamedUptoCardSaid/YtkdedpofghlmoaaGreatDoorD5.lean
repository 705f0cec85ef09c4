/- The walks of dom.rest, Less, Without. No statement is proved here. -/
import Derived.Test.YtkdedpofghlmoaaGreatDoorD4
set_option linter.unusedVariables false
set_option linter.unusedSimpArgs false
namespace Go.Proofs.YtkdedpofghlmoaaGreatDoor
open Go.RowKit Go.Proofs.YtkdedpofghlmoaaGreatDoorW.PrintWords
def restF (e : Int) : List Rng → List Rng
  | [] => []
  | r :: l => (if e < r.lo then [⟨e, r.lo - 1⟩] else []) ++ restF (r.hi + 1) l
def restL (l : List Rng) : List Rng := restF (-1000000) (l ++ [⟨1000001, 1000001⟩])
theorem restF_len : ∀ (l : List Rng) (e : Int), (restF e l).length ≤ l.length
  | [], _ => by simp [restF]
  | r :: l, e => by
    have := restF_len l (r.hi + 1)
    rw [restF]
    split <;> simp <;> omega
set_option maxHeartbeats 1000000 in
theorem dom_rest (A : Option Addr) (c : Nat) (l : List Rng) (w : World) (hr : kRng.C w A l.length l) (hl : l.length ≤ 4096) (hin : ∀ r ∈ l, -1000000 ≤ r.lo ∧ r.lo ≤ r.hi ∧ r.hi ≤ 1000000) :
    Calls Tryz.prog 290 #[.slice A l.length c] w (RetO kRng 101 (restL l) w) := by
  have HR := Lib.hid hr
  clear hr
  unfold restL
  go_enter Tryz.func290, Tryz.ntmps290
  go_wp2_with fail
  refine (clone_Rng _ _ _ _ HR.out (by omega)).mono ?_; rintro e w1 ⟨v1, rfl, HO1⟩
  have HIN := Lib.hid (show ∀ r ∈ l ++ [(⟨1000001, 1000001⟩ : Rng)], -1000000 ≤ r.lo ∧ r.lo ≤ r.hi ∧ r.hi ≤ 1000001 by
    intro r hr
    rcases List.mem_append.1 hr with hr | hr
    · have := hin r hr; omega
    · rw [List.mem_singleton.1 hr]; decide)
  clear hin
  go_wp2_with (at_builtin; refine AccR.app HO1 rfl rfl rfl rfl (by simp) inferInstance (by omega) ?_; intro v2 w2 HO2 hk2; clear hk2; obtain ⟨A2, c2, rfl, hl2, hr2⟩ := HO2.reads; have HR2 := Lib.hid hr2; clear hr2; have hlen' : (l ++ [(⟨1000001, 1000001⟩ : Rng)]).length ≤ 4097 := (by simp; omega); generalize (l ++ [(⟨1000001, 1000001⟩ : Rng)]) = t at *)
  go_loopw [3, 4, 13] (fun v n i wr => ∃ (k : Nat) (f : Int) (out : List Rng), k ≤ t.length ∧ i = .int .i64 k ∧ n = .int .i64 f ∧ -1000000 ≤ f ∧ f ≤ 1000002 ∧ out.length ≤ k ∧ AccR w2 wr v out ∧ Hid (out ++ restF f (t.drop k) = restF (-1000000) t)) (fun _ _ i _ => t.length - (intOf i).toNat)
  case atStart => exact ⟨0, -1000000, [], by omega, rfl, rfl, by omega, by omega, by simp, inferInstance, Lib.hid (by simp)⟩
  case round =>
    obtain ⟨k, f, out, hk, rfl, rfl, hf0, hf1, ho, HO, HX⟩ := hrel
    by_cases hlt : k < t.length
    · obtain ⟨r, hr⟩ : ∃ r, t[k]? = some r := ⟨t[k], List.getElem?_eq_getElem hlt⟩
      obtain ⟨ad, rfl, c0, c1⟩ := Rng.nth HR2.out hr
      obtain ⟨b0, b1, b2⟩ := HIN.out r (List.mem_of_getElem? hr)
      have HX' := HX.out
      rw [drop_at hr, restF] at HX'
      clear hr HX
      replace c0 := HO.cell c0
      replace c1 := HO.cell c1
      by_cases hlo : f < r.lo
      · rw [if_pos hlo] at HX'
        replace HX' := Lib.hid HX'
        go_wp2_with (at_builtin; refine AccR.app HO rfl rfl rfl rfl (by simp) inferInstance (by omega) ?_; intro v3 w3 HO3 hk3; have e1 := hk3 wr.heap.size 1 (.int .i64 r.hi) (Nat.le_refl _) (by simp [World.cell?_alloc_new]); clear hk3)
        go_roundw
        case rel => exact ⟨k + 1, r.hi + 1, out ++ [_], by omega, by go_num, rfl, by omega, by omega, by simp; omega, HO3, Lib.hid (by have := HX'.out; simpa using this)⟩
        case measure => simp [intOf]; omega
      · rw [if_neg hlo] at HX'
        replace HX' := Lib.hid HX'
        go_wp2
        go_roundw
        case rel => exact ⟨k + 1, r.hi + 1, out, by omega, by go_num, rfl, by omega, by omega, by omega, inferInstance, Lib.hid (by have := HX'.out; simpa using this)⟩
        case measure => simp [intOf]; omega
    · go_wp2
      go_ret
      have : k = t.length := by omega
      subst this
      have hx := HX.out
      rw [List.drop_length, restF, List.append_nil] at hx
      subst hx
      exact ⟨_, rfl, ⟨Kd.R_lower HO.own HO2.bel.out.size, HO2.bel.trans HO.bel⟩⟩
end Go.Proofs.YtkdedpofghlmoaaGreatDoor
