/- The walks of slices.Clone, Equal of ranges, dom.Same, dom.Both. No statement is proved here. -/
import Derived.Test.YtkdedpofghlmoaaGreatDoorD3
import Derived.Test.YtkdedpofghlmoaaGreatDoorB2
import Derived.Test.YtkdedpofghlmoaaGreatDoorWEqStruct
import Derived.WalkSpells
set_option linter.unusedVariables false
set_option linter.unusedSimpArgs false
namespace Go.Proofs.YtkdedpofghlmoaaGreatDoor
open Go.RowKit Go.Proofs.YtkdedpofghlmoaaGreatDoorW.PrintWords
theorem eqA101 (d : Nat) (w : World) (x0 y0 : Int) (x1 y1 : Int) :
    (Op.equalIn (d + 2) 101 (.agg #[.int .i64 x0, .int .i64 x1]) (.agg #[.int .i64 y0, .int .i64 y1])).run Tryz.prog w = .ok (x0 == y0 && (x1 == y1)) w := by
  refine eqA_of Tryz.underlying101 (by kernel_rfl) ?_
  refine eqf_cons (by rfl) (by go_simp; rfl) (by go_simp; rfl) (by go_simp) ?_
  exact eqf_last (by rfl) (by go_simp; rfl) (by go_simp; rfl) (by go_simp)
attribute [local go_sem high] eqA101
set_option maxHeartbeats 400000 in
theorem clone_Rng (A : Option Addr) (c : Nat) (l : List Rng) (w : World) (hr : kRng.C w A l.length l) (hl : l.length ≤ 8796093022208) :
    Calls Tryz.prog 162 #[.slice A l.length c] w (RetO kRng 101 l w) := by
  cases A with
  | none =>
    obtain rfl := C_none hr
    have h1 := fun w => Lib.run_eql_slice_nil (P := Tryz.prog) w 46 101 none 0 c 0 0 Tryz.underlying46
    clear hr
    go_enter Tryz.func162, Tryz.ntmps162
    go_wp2
    go_ret
    exact ⟨.slice none 0 0, rfl, inferInstance⟩
  | some ad =>
    have HR := Lib.hid hr
    have h1 := fun w => Lib.run_eql_slice_nil (P := Tryz.prog) w 46 101 (some ad) l.length c 0 0 Tryz.underlying46
    clear hr
    go_enter Tryz.func162, Tryz.ntmps162
    go_wp2_with (at_builtin; refine AccR.appRow (w0 := w) (Acc.lit0 inferInstance) rfl rfl rfl rfl inferInstance (Kd.now HR.out inferInstance) (by simpa using hl) ?_; intro v1 w1 HO1 hk1; clear hk1)
    go_ret
    exact ⟨_, rfl, by simpa using HO1⟩
def eqRng : List Rng → List Rng → Bool
  | [], [] => true
  | x :: a, y :: b => if !(x.lo == y.lo) || !(x.hi == y.hi) then false else eqRng a b
  | _, _ => false
theorem eqRng_eq : ∀ a b, eqRng a b = decide (a = b)
  | [], [] => rfl
  | [], _ :: _ => by simp [eqRng]
  | _ :: _, [] => by simp [eqRng]
  | x :: a, y :: b => by
    rw [eqRng, eqRng_eq a b]
    obtain ⟨x0, x1⟩ := x
    obtain ⟨y0, y1⟩ := y
    by_cases h0 : x0 = y0 <;> by_cases h1 : x1 = y1 <;> simp [h0, h1]
set_option maxHeartbeats 1000000 in
theorem equal_Rng (A B : Option Addr) (c d : Nat) (l m : List Rng) (w : World) (hr : kRng.C w A l.length l) (hs : kRng.C w B m.length m) :
    Calls Tryz.prog 244 #[.slice A l.length c, .slice B m.length d] w fun e w' => e = .returned (.bool (decide (l = m))) ∧ Bel w w' := by
  have hl := C_len hr
  have hm := C_len hs
  have HR := Lib.hid hr
  have HS := Lib.hid hs
  clear hr hs
  by_cases hne : l.length = m.length
  · have h0 : ((l.length : Int) != (m.length : Int)) = false := by simp [hne]
    have HF := Lib.hid (eqRng_eq l m)
    have HE := Lib.hid hne
    clear hne
    go_enter Tryz.func244, Tryz.ntmps244
    go_wp2
    go_loopw [13] (fun i wr => ∃ (k : Nat), k ≤ l.length ∧ i = .int .i64 k ∧ Bel w wr ∧ Hid (eqRng (l.drop k) (m.drop k) = decide (l = m))) (fun i _ => l.length - (intOf i).toNat)
    case atStart => exact ⟨0, by omega, rfl, inferInstance, Lib.hid (by simpa using HF.out)⟩
    case round =>
      obtain ⟨k, hk, rfl, HB, HX⟩ := hrel
      by_cases hlt : k < l.length
      · have hlt2 : k < m.length := by have := HE.out; omega
        obtain ⟨r, hr⟩ : ∃ r, l[k]? = some r := ⟨l[k], List.getElem?_eq_getElem hlt⟩
        obtain ⟨s, hs⟩ : ∃ r, m[k]? = some r := ⟨m[k], List.getElem?_eq_getElem hlt2⟩
        obtain ⟨ad, rfl, c0, c1⟩ := Rng.nth HR.out hr
        obtain ⟨bd, rfl, d0, d1⟩ := Rng.nth HS.out hs
        have HX' := HX.out
        rw [drop_at hr, drop_at hs, eqRng] at HX'
        clear hr hs HX
        replace c0 := HB.cell c0
        replace c1 := HB.cell c1
        replace d0 := HB.cell d0
        replace d1 := HB.cell d1
        cases hb : (!(r.lo == s.lo) || !(r.hi == s.hi)) <;> (rw [hb] at HX'; replace HX' := Lib.hid HX')
        · go_wp2
          go_quiet (fail)
          go_wp2
          go_roundw
          case rel => exact ⟨k + 1, by omega, by go_num, inferInstance, Lib.hid (by simpa using HX'.out)⟩
          case measure => simp [intOf]; omega
        · go_wp2
          go_quiet (fail)
          go_wp2
          go_ret
          exact ⟨ret_b (by simpa using HX'.out), inferInstance⟩
      · go_wp2
        go_ret
        have : k = l.length := by omega
        subst this
        exact ⟨ret_b (by have := HX.out; rw [List.drop_length, HE.out, List.drop_length] at this; exact this), HB⟩
  · have h0 : ((l.length : Int) != (m.length : Int)) = true := by simp; omega
    have HF := Lib.hid (show decide (l = m) = false from decide_eq_false (fun e => hne (by rw [e])))
    clear hne
    go_enter Tryz.func244, Tryz.ntmps244
    go_wp2
    go_ret
    exact ⟨ret_b HF.out.symm, inferInstance⟩
def sameL (a b : List Rng) : Bool := decide (takenL a = takenL b)
theorem dom_Same (A B : Option Addr) (c d : Nat) (l m : List Rng) (w : World) (hc : l.length ≤ c) (hd : m.length ≤ d) (hr : kRng.C w A l.length l) (hs : kRng.C w B m.length m) :
    Calls Tryz.prog 178 #[.slice A l.length c, .slice B m.length d] w fun e w' => e = .returned (.bool (sameL l m)) ∧ Bel w w' := by
  have HR := Lib.hid hr
  have HS := Lib.hid hs
  clear hr hs
  go_enter Tryz.func178, Tryz.ntmps178
  go_wp2_with fail
  refine (dom_taken _ _ _ _ hc HR.out).mono ?_; rintro e w1 ⟨A1, c1, rfl, hl1, hr1, HB1⟩; have HR1 := Lib.hid hr1; clear hr1
  go_wp2_with fail
  refine (dom_taken _ _ _ _ hd (Kd.now HS.out HB1)).mono ?_; rintro e w2 ⟨A2, c2, rfl, hl2, hr2, HB2⟩; have HR2 := Lib.hid hr2; clear hr2
  go_wp2_with fail
  refine (equal_Rng _ _ _ _ _ _ _ (Kd.now HR1.out HB2) HR2.out).mono ?_; rintro e w3 ⟨rfl, HB3⟩
  go_wp2
  go_ret
  exact ⟨rfl, (HB1.trans HB2).trans HB3⟩
def BothL (a b : List Rng) : List Rng := if (bothL (takenL a) (takenL b)).length ≤ 4096 then bothL (takenL a) (takenL b) else takenL a
set_option maxHeartbeats 400000 in
theorem dom_Both (A B : Option Addr) (c d : Nat) (l m : List Rng) (w : World) (hc : l.length ≤ c) (hd : m.length ≤ d) (hr : kRng.C w A l.length l) (hs : kRng.C w B m.length m) :
    Calls Tryz.prog 184 #[.slice A l.length c, .slice B m.length d] w (RetS kRng (BothL l m) w) := by
  have HR := Lib.hid hr
  have HS := Lib.hid hs
  have hlen := takenL_len l
  unfold BothL
  by_cases hle : (bothL (takenL l) (takenL m)).length ≤ 4096
  · rw [if_pos hle]
    clear hr hs
    go_enter Tryz.func184, Tryz.ntmps184
    go_wp2_with (go_at_call 246; refine (dom_both _ _ _ _ _ _ _ hc hd HR.out HS.out).mono ?_; rintro e w1 ⟨A1, c1, rfl, hl1, hr1, HB1⟩; have HR1 := Lib.hid hr1; clear hr1)
    go_ret
    exact ⟨_, _, rfl, hl1, HR1.out, HB1⟩
  · rw [if_neg hle]
    clear hr hs
    go_enter Tryz.func184, Tryz.ntmps184
    go_wp2_with fail
    refine (dom_both _ _ _ _ _ _ _ hc hd HR.out HS.out).mono ?_; rintro e w1 ⟨A1, c1, rfl, hl1, hr1, HB1⟩; clear hr1
    go_wp2_with fail
    refine (dom_taken _ _ _ _ hc (Kd.now HR.out HB1)).mono ?_; rintro e w2 ⟨A2, c2, rfl, hl2, hr2, HB2⟩; have HR2 := Lib.hid hr2; clear hr2
    go_wp2_with fail
    refine (clone_Rng _ _ _ _ HR2.out (by omega)).mono ?_; rintro e w3 ⟨v, rfl, HO⟩
    go_wp2
    go_ret
    obtain ⟨A3, c3, rfl, h3, h4⟩ := HO.reads
    exact ⟨_, _, rfl, h3, h4, (HB1.trans HB2).trans HO.bel⟩
end Go.Proofs.YtkdedpofghlmoaaGreatDoor
