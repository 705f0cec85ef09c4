/- arith.Holds at every constraint and all values. No statement is proved here. -/
import Derived.Test.YtkdedpofghlmoaaGreatDoorA3
set_option linter.unusedVariables false
set_option linter.unusedSimpArgs false
namespace Go.Proofs.YtkdedpofghlmoaaGreatDoor
open Go.RowKit Go.Proofs.YtkdedpofghlmoaaGreatDoorW.PrintWords
/-- A constraint of another family. -/
theorem tool_HoldsF {mf : Nat} {fam name : ByteArray} (A : Option Addr) (n c : Nat) (B : Option Addr) (m d : Nat) (w : World) (hfam : ((findR name).family.toList == fam.toList) = false) :
    Calls Tryz.prog 43 #[.agg #[.string name, .slice A n c], .slice B m d, .string fam, .func (.func mf) #[] #[]] w fun e w' => e = .returned (.tuple #[.bool false, .int .i64 51]) ∧ Bel w w' := by
  go_enter Tryz.func43, Tryz.ntmps43
  go_wp2_with (go_at_call 86; refine (cons_Family name _).mono ?_; rintro e w1 ⟨rfl, HB1⟩)
  go_ret2
  exact ⟨rfl, Bel.trans inferInstance HB1⟩
/-- What Holds says where the constraint is of the family. -/
structure FormOk (name : ByteArray) : Prop where
  plain : plainB name = true
  size : (findR name).form.size < 4294967281
  some : (findR name).form.toList.isEmpty = false
  parts : ∀ p ∈ partsL (findR name).form, 1 ≤ p.size ∧ p.size ≤ 1000
  few : (partsL (findR name).form).length ≤ 1000
theorem form_3 {n : ByteArray} (h : Name3 n) : FormOk n := by
  refine ⟨h.plain, ?_, ?_, ?_, ?_⟩
  · rw [h.row]
    exact (by decide : form3.size < 4294967281)
  · rw [h.row]
    show form3.toList.isEmpty = false
    rw [ByteArray.toList_eq]
    rfl
  · rw [h.row, parts3]
    intro p hp
    have : p = part1 := by simpa using hp
    subst this
    exact (by decide : 1 ≤ part1.size ∧ part1.size ≤ 1000)
  · rw [h.row, parts3]
    decide
theorem form_abs : FormOk nAbs := by
  refine ⟨plain_abs, ?_, ?_, ?_, ?_⟩
  · rw [row_abs]
    exact (by decide : form2.size < 4294967281)
  · rw [row_abs]
    show form2.toList.isEmpty = false
    rw [ByteArray.toList_eq]
    rfl
  · rw [row_abs, parts2]
    intro p hp
    have : p = part1 := by simpa using hp
    subst this
    exact (by decide : 1 ≤ part1.size ∧ part1.size ≤ 1000)
  · rw [row_abs, parts2]
    decide
theorem form_E {n : ByteArray} (h : NameE n) : FormOk n := by
  obtain ⟨p1, p2, hp, h1, h2, h3, h4, _, _⟩ := h.parts
  refine ⟨h.plain, by have := h.size; omega, h.some, ?_, ?_⟩
  · rw [hp]
    intro p hm
    simp only [List.mem_cons, List.mem_nil_iff, or_false] at hm
    rcases hm with rfl | rfl | rfl
    · exact (by decide : 1 ≤ part1.size ∧ part1.size ≤ 1000)
    · exact ⟨h1, h2⟩
    · exact ⟨h3, h4⟩
  · rw [hp]
    simp
theorem first_ne : (firstC part1 == 97) = false := by rw [first73]; rfl
/-- What the family's function answers, where it is asked. -/
theorem means_all {name : ByteArray} {args : List Arg} {vs : List Val} (hc : Name3 name ∨ name = nAbs ∨ NameE name) (h0 : rightE name args (vs.map Val.set) = 0) (hv : rightVars vs (varsL args) = true) :
    MeansIs 78 name (valuesL vs args) (semL name (valuesL vs args)).1 (semL name (valuesL vs args)).2 := by
  obtain ⟨hlen, hhead, hlong, hask⟩ := right_zero h0
  have hl1 := long_le hlong
  rcases hc with h | rfl | h
  · rw [h.row, parts3] at hlen hhead hask
    match args, hlen with
    | [a0, a1, a2], _ =>
      obtain ⟨t0, rfl, k1⟩ := head_one hhead first_ne
      obtain ⟨t1, rfl, k2⟩ := head_one k1 first_ne
      obtain ⟨t2, rfl, k3⟩ := head_one k2 first_ne
      simp only [askR, last73, tA, List.all_cons, List.all_nil, Bool.and_true] at hask
      split at hask
      · rename_i q0
        split at hask
        · rename_i q1
          have i0 := val_in (a := tA t0) q0 hv (by simp) (by simp [tA])
          have i1 := val_in (a := tA t1) q1 hv (by simp) (by simp [tA])
          have hsem : semL name (valuesL vs [tA t0, tA t1, tA t2]) = meansL name (ofT vs t0).1.n (ofT vs t1).1.n (ofT vs t2).1.n := by
            have ht := h.thr
            simp only [three, Bool.and_eq_true, Bool.not_eq_true'] at ht
            unfold semL
            rw [if_neg (by rw [ht.1]; simp), if_neg (by rw [show preArray = ⟨#[97, 114, 114, 97, 121, 95]⟩ from rfl, ht.2]; simp)]
            rfl
          rw [hsem]
          exact arith_means name (ofT vs t0).1 (ofT vs t1).1 (ofT vs t2).1 h.thr (in64_of i0) (in64_of i1)
        · cases hask
      · cases hask
  · rw [row_abs, parts2] at hlen hhead hask
    match args, hlen with
    | [a0, a1], _ =>
      obtain ⟨t0, rfl, k1⟩ := head_one hhead first_ne
      obtain ⟨t1, rfl, k2⟩ := head_one k1 first_ne
      simp only [askR, last73, tA, List.all_cons, List.all_nil, Bool.and_true] at hask
      split at hask
      · rename_i q0
        have i0 := val_in (a := tA t0) q0 hv (by simp) (by simp [tA])
        have hsem : semL nAbs (valuesL vs [tA t0, tA t1]) = (mxi (ofT vs t0).1.n (-(ofT vs t0).1.n) == (ofT vs t1).1.n, 0) := by
          unfold semL
          rw [if_pos abs_abs]
          rfl
        rw [hsem]
        exact arith_abs (ofT vs t0).1 (ofT vs t1).1 i0
      · cases hask
  · obtain ⟨p1, p2, hp, _, _, _, _, f1, f2⟩ := h.parts
    rw [hp] at hlen hhead hask
    match args, hlen with
    | [a0, a1, a2], _ =>
      obtain ⟨t0, rfl, k1⟩ := head_one hhead first_ne
      have k2 := head_arr k1 f1
      obtain ⟨t2, rfl, k3⟩ := head_one k2 f2
      simp only [askR, last73, tA, List.all_cons, List.all_nil, Bool.and_true] at hask
      split at hask
      · rename_i q0
        have i0 := val_in (a := tA t0) q0 hv (by simp) (by simp [tA])
        have hsem : semL name (valuesL vs [tA t0, a1, tA t2]) = (elemB (ofT vs t0).1.n (a1.l.map fun t => (ofT vs t).1) (ofT vs t2).1, 0) := by
          unfold semL
          rw [if_neg (by rw [h.nabs]; simp), if_pos h.pre]
          rfl
        rw [hsem]
        exact arith_elem name h.pre h.nabs (ofT vs t0).1 (a1.l.map fun t => (ofT vs t).1) (ofT vs t2).1 i0 (by simpa using hl1 a1 (by simp))
      · cases hask
set_option maxHeartbeats 1000000 in
theorem arith_HoldsG (name : ByteArray) (args : List Arg) (vs : List Val) (A : Option Addr) (c : Nat) (B : Option Addr) (d : Nat) (w : World) (hm : ML w)
    (ha : kArg.C w A args.length args) (hv : kVal.C w B vs.length vs) (hvs : vs.length ≤ 1099511627776) :
    Calls Tryz.prog 38 #[.agg #[.string name, .slice A args.length c], .slice B vs.length d] w fun e w' => e = .returned (.tuple #[.bool (arithL name args vs).1, .int .i64 (arithL name args vs).2]) ∧ Bel w w' := by
  have HC : ∀ (W : World), Bel w W → Calls Tryz.prog 43 #[.agg #[.string name, .slice A args.length c], .slice B vs.length d, .string arithFam, .func (.func 78) #[] #[]] W fun e w' => e = .returned (.tuple #[.bool (arithL name args vs).1, .int .i64 (arithL name args vs).2]) ∧ Bel W w' := by
    intro W hb
    cases hfam : ((findR name).family.toList == arithFam.toList) with
    | false =>
      have hr : arithL name args vs = (false, 51) := by
        unfold arithL HoldsL
        rw [if_pos hfam]
      rw [hr]
      exact tool_HoldsF A _ c B _ d W hfam
    | true =>
      have hc := arith_cases hfam
      have hk : FormOk name := by
        rcases hc with h | rfl | h
        · exact form_3 h
        · exact form_abs
        · exact form_E h
      refine tool_HoldsH A c B d W (hm.bel hb) (Kd.now ha hb) (Kd.now hv hb) hk.plain hk.size hk.some hk.parts hk.few ?_ hvs
      intro h0 hrv W2 hb2
      obtain ⟨hlen, hhead, hlong, hask⟩ := right_zero h0
      refine tool_holdsT (fun _ _ => Tryz.call78 _ _) (fun _ => means_all hc h0 hrv) A c B d W2 ((hm.bel hb).bel hb2) (Kd.now (Kd.now ha hb) hb2) (Kd.now (Kd.now hv hb) hb2) (long_le hlong) (by rw [← hlen]; exact hk.few) ?_ hk.size (fun p hp => (hk.parts p hp).2)
      intro i hi
      have := truths_in _ 0 i hi
      rw [← hlen]
      omega
  have HH := Lib.hid HC
  obtain ⟨r, hr⟩ : ∃ r, arithL name args vs = r := ⟨_, rfl⟩
  rw [hr] at HH ⊢
  clear hm ha hv hvs hr HC
  unfold arithFam at HH
  go_enter Tryz.func38, Tryz.ntmps38
  go_wp2_with fail
  refine (HH.out _ inferInstance).mono ?_
  rintro e w1 ⟨rfl, HB⟩
  go_wp2
  go_ret2
  exact ⟨rfl, Bel.trans inferInstance HB⟩
end Go.Proofs.YtkdedpofghlmoaaGreatDoor
