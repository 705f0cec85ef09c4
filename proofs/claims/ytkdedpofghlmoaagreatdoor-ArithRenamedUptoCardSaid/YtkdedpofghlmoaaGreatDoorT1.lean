/- Texts: how they begin and end, how they are split at commas, by the kit's contracts; the places of the truths of a form. No statement is proved here. -/
import Derived.Test.YtkdedpofghlmoaaGreatDoorK2
import Derived.Test.YtkdedpofghlmoaaGreatDoorSH
import Derived.Test.YtkdedpofghlmoaaGreatDoorK3
import Derived.Shelf.Strings.Prefix
import Derived.Shelf.Strings.Split
set_option linter.unusedVariables false
set_option linter.unusedSimpArgs false
namespace Go.Proofs.YtkdedpofghlmoaaGreatDoor
open Go.RowKit Go.Proofs.YtkdedpofghlmoaaGreatDoorW.PrintWords
def preB (s p : ByteArray) : Bool := Lib.hasPrefix s.data.toList p.data.toList
def sufB (s p : ByteArray) : Bool := Lib.hasSuffix s.data.toList p.data.toList
theorem strings_HasPrefix (s p : ByteArray) (w : World) : Calls Tryz.prog 137 #[.string s, .string p] w fun e w' => e = .returned (.bool (preB s p)) ∧ w' = w := Any.strings_HasPrefix lays137 s p w
theorem strings_HasSuffix (s p : ByteArray) (w : World) (hs : s.size ≤ 9223372036854775807) : Calls Tryz.prog 93 #[.string s, .string p] w fun e w' => e = .returned (.bool (sufB s p)) ∧ w' = w := Any.strings_HasSuffix lays93 s p w hs
/-- The one package-level variable that is read: a whole number. -/
def ML (w : World) : Prop := ∃ m, w.cell? ⟨0, 0, none⟩ = some (.int .i64 m)
theorem ML.bel {w w' : World} (h : ML w) (hb : Bel w w') : ML w' := by
  obtain ⟨m, hm⟩ := h
  exact ⟨m, hb.cell hm⟩
def partsL (f : ByteArray) : List ByteArray := Lib.splitB ⟨#[44]⟩ 0 (Lib.countB f ⟨#[44]⟩) f
theorem partsL_len (f : ByteArray) : (partsL f).length = Lib.countB f ⟨#[44]⟩ + 1 := Lib.splitB_all _ (by decide) 0 _ f rfl
theorem lit_strs (w : World) (ps : List ByteArray) (hl : ps.length ≤ 9223372036854775807) : Kd.string.C (w.alloc (.cells (ps.map Value.string).toArray 9)) (some ⟨w.heap.size, 0, none⟩) ps.length ps := by
  have h : Acc Kd.string 9 w (w.alloc (.cells (ps.map Value.string).toArray 9)) (.slice (some ⟨w.heap.size, 0, none⟩) ps.length ps.length) ps :=
    ⟨⟨fun _ _ => trivial, OwnRow.lit (ps := ps) (inner := ps.map Value.string) w w.heap.size (Kd.reps_scalar ps) (Nat.le_refl _) hl⟩, inferInstance⟩
  exact h.C.2.2
theorem split_c (f : ByteArray) (w : World) (hm : ML w) (hf : f.size < 4294967281) : Calls Tryz.prog 152 #[.string f, .string ⟨#[44]⟩] w (RetS Kd.string (partsL f) w) := by
  obtain ⟨m, hm⟩ := hm
  refine (Any.strings_Split lays152 (by kernel_rfl) f ⟨#[44]⟩ m w hf hm (by decide)).mono ?_
  rintro e w' ⟨rfl, rfl⟩
  rw [← partsL_len]
  have := Lib.countB_le ⟨#[44]⟩ (by decide) f.size f (Nat.le_refl _)
  exact ⟨_, _, rfl, Nat.le_refl _, lit_strs _ (partsL f) (by rw [partsL_len]; omega), inferInstance⟩
def truthsF (i : Nat) : List ByteArray → List Int
  | [] => []
  | p :: ps => if sufB p ⟨#[66]⟩ then (i : Int) :: truthsF (i + 1) ps else truthsF (i + 1) ps
def truthsL (name : ByteArray) : List Int := truthsF 0 (partsL (findR name).form)
set_option maxHeartbeats 1000000 in
theorem tool_truths (name : ByteArray) (w : World) (hm : ML w) (hf : (findR name).form.size < 4294967281) (hp : ∀ p ∈ partsL (findR name).form, p.size ≤ 1000) :
    Calls Tryz.prog 107 #[.string name] w (RetS (Kd.int .i64) (truthsL name) w) := by
  unfold truthsL
  have HM := Lib.hid hm
  have HP := Lib.hid hp
  obtain ⟨f, hfe⟩ : ∃ f, (findR name).form = f := ⟨_, rfl⟩
  have HF := Lib.hid hfe
  rw [hfe] at hf
  rw [hfe] at HP
  rw [hfe]
  have hlen := partsL_len f
  have hcb := Lib.countB_le ⟨#[44]⟩ (by decide) f.size f (Nat.le_refl _)
  clear hm hp hfe
  go_enter Tryz.func107, Tryz.ntmps107
  go_wp2_with fail
  refine (cons_Form name _).mono ?_
  rintro e w1 ⟨rfl, HB1⟩
  rw [HF.out]
  go_wp2_with fail
  refine (split_c f _ (HM.out.bel HB1) hf).mono ?_
  rintro e w2 ⟨A1, c1, rfl, hl1, hr1, HB2⟩
  have HR1 := Lib.hid hr1
  have HB0 := HB1.trans HB2
  clear hr1 HB1 HB2
  generalize partsL f = ps at *
  go_wp2_with fail
  go_loopw [3, 10] (fun v i wr => ∃ (k : Nat) (out : List Int), k ≤ ps.length ∧ i = .int .i64 k ∧ out.length ≤ k ∧ AccN w2 wr v out ∧ Hid (out ++ truthsF k (ps.drop k) = truthsF 0 ps)) (fun _ i _ => ps.length - (intOf i).toNat)
  case atStart => exact ⟨0, [], by omega, rfl, by simp, inferInstance, Lib.hid (by simp)⟩
  case round =>
    obtain ⟨k, out, hk, rfl, ho, HO, HX⟩ := hrel
    by_cases hlt : k < ps.length
    · obtain ⟨p, hr⟩ : ∃ r, ps[k]? = some r := ⟨ps[k], List.getElem?_eq_getElem hlt⟩
      obtain ⟨ad, rfl, c0⟩ := Str.nth HR1.out hr
      have hps := HP.out p (List.mem_of_getElem? hr)
      have HX' := HX.out
      rw [drop_at hr, truthsF] at HX'
      clear hr HX
      replace c0 := HO.cell c0
      cases hs : sufB p ⟨#[66]⟩ with
      | true =>
        rw [hs, if_pos rfl] at HX'
        replace HX' := Lib.hid HX'
        have HS := Lib.hid hs
        clear hs
        go_wp2_with (first | (go_at_call 93; refine (strings_HasSuffix _ _ _ (by omega)).mono ?_; rintro e w3 ⟨rfl, rfl⟩; rw [HS.out]) | (at_builtin; refine AccN.app HO rfl rfl rfl rfl (by simp) inferInstance (by omega) ?_; intro v1 w1 HO1 hk1; clear hk1))
        go_roundw
        case rel => exact ⟨k + 1, _, by omega, by go_num, by simp; omega, HO1, Lib.hid (by have := HX'.out; simpa using this)⟩
        case measure => simp [intOf]; omega
      | false =>
        rw [hs, if_neg (by simp)] at HX'
        replace HX' := Lib.hid HX'
        have HS := Lib.hid hs
        clear hs
        go_wp2_with (go_at_call 93; refine (strings_HasSuffix _ _ _ (by omega)).mono ?_; rintro e w3 ⟨rfl, rfl⟩; rw [HS.out])
        go_roundw
        case rel => exact ⟨k + 1, out, by omega, by go_num, by omega, HO, Lib.hid (by have := HX'.out; simpa using this)⟩
        case measure => simp [intOf]; omega
    · go_wp2
      go_ret
      obtain rfl : k = ps.length := by omega
      have hx := HX.out
      rw [List.drop_length, truthsF, List.append_nil] at hx
      subst hx
      obtain ⟨A2, c2, rfl, h2, h3⟩ := Acc.reads HO
      exact ⟨A2, c2, rfl, h2, h3, HB0.trans HO.bel⟩
end Go.Proofs.YtkdedpofghlmoaaGreatDoor
