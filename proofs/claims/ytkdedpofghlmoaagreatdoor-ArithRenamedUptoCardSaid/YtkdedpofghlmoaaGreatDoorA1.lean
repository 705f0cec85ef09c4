/- The walks of arith.made, means at three numbers. No statement is proved here. -/
import Derived.Test.YtkdedpofghlmoaaGreatDoorT2
import Derived.Test.YtkdedpofghlmoaaGreatDoorI5
set_option linter.unusedVariables false
set_option linter.unusedSimpArgs false
namespace Go.Proofs.YtkdedpofghlmoaaGreatDoor
open Go.RowKit Go.Proofs.YtkdedpofghlmoaaGreatDoorW.PrintWords
theorem toList_inj {a b : ByteArray} (h : a.toList = b.toList) : a = b := by
  rw [ByteArray.toList_eq, ByteArray.toList_eq] at h
  cases a
  cases b
  congr 1
  exact Array.toList_inj.1 h
theorem ne_list {n m : ByteArray} {l : List UInt8} (h : ¬ n = m) (hl : m.data.toList = l := by rfl) : (n.toList == l) = false := by
  rw [beq_eq_false_iff_ne]
  intro e
  exact h (toList_inj (e.trans (hl.symm.trans (ByteArray.toList_eq m).symm)))
def nPlus : ByteArray := ⟨#[105, 110, 116, 95, 112, 108, 117, 115]⟩
def nTimes : ByteArray := ⟨#[105, 110, 116, 95, 116, 105, 109, 101, 115]⟩
def nMin : ByteArray := ⟨#[105, 110, 116, 95, 109, 105, 110]⟩
def nMax : ByteArray := ⟨#[105, 110, 116, 95, 109, 97, 120]⟩
def nDiv : ByteArray := ⟨#[105, 110, 116, 95, 100, 105, 118]⟩
def nMod : ByteArray := ⟨#[105, 110, 116, 95, 109, 111, 100]⟩
def nPow : ByteArray := ⟨#[105, 110, 116, 95, 112, 111, 119]⟩
/-- What a constraint of three numbers makes of the first two. -/
def madeL (n : ByteArray) (x y : Int) : Int × Int :=
  if n = nPlus then fitL (x + y) else if n = nTimes then fitL (x * y) else if n = nMin then (mni x y, 0) else if n = nMax then (mxi x y, 0) else if n = nDiv then divL x y else if n = nMod then modL x y else powL x y
set_option maxHeartbeats 1000000 in
theorem arith_made (n : ByteArray) (x y : Int) (hx : in64 x = true) (hy : in64 y = true) (w : World) :
    Calls Tryz.prog 139 #[.string n, .int .i64 x, .int .i64 y] w fun e w' => e = .returned (.tuple #[.int .i64 (madeL n x y).1, .int .i64 (madeL n x y).2]) ∧ Bel w w' := by
  have HX := Lib.hid hx
  have HY := Lib.hid hy
  clear hx hy
  unfold madeL
  by_cases h1 : n = nPlus
  · subst h1
    rw [if_pos rfl]
    unfold nPlus
    go_enter Tryz.func139, Tryz.ntmps139
    go_wp2_with (go_at_call 197; refine (ints_Add _ _ HX.out HY.out _).mono ?_; rintro e w1 ⟨rfl, rfl⟩)
    go_ret2
    exact ⟨rfl, inferInstance⟩
  by_cases h2 : n = nTimes
  · subst h2
    rw [if_neg (by decide), if_pos rfl]
    unfold nTimes
    go_enter Tryz.func139, Tryz.ntmps139
    go_wp2_with (go_at_call 198; refine (ints_Mul _ _ HX.out HY.out _).mono ?_; rintro e w1 ⟨rfl, rfl⟩)
    go_ret2
    exact ⟨rfl, inferInstance⟩
  by_cases h3 : n = nMin
  · subst h3
    rw [if_neg (by decide), if_neg (by decide), if_pos rfl]
    unfold nMin
    go_enter Tryz.func139, Tryz.ntmps139
    go_wp2
    go_ret2
    exact ⟨rfl, inferInstance⟩
  by_cases h4 : n = nMax
  · subst h4
    rw [if_neg (by decide), if_neg (by decide), if_neg (by decide), if_pos rfl]
    unfold nMax
    go_enter Tryz.func139, Tryz.ntmps139
    go_wp2
    go_ret2
    exact ⟨rfl, inferInstance⟩
  by_cases h5 : n = nDiv
  · subst h5
    rw [if_neg (by decide), if_neg (by decide), if_neg (by decide), if_neg (by decide), if_pos rfl]
    unfold nDiv
    go_enter Tryz.func139, Tryz.ntmps139
    go_wp2_with (go_at_call 199; refine (ints_Div _ _ HX.out HY.out _).mono ?_; rintro e w1 ⟨rfl, rfl⟩)
    go_ret2
    exact ⟨rfl, inferInstance⟩
  by_cases h6 : n = nMod
  · subst h6
    rw [if_neg (by decide), if_neg (by decide), if_neg (by decide), if_neg (by decide), if_neg (by decide), if_pos rfl]
    unfold nMod
    go_enter Tryz.func139, Tryz.ntmps139
    go_wp2_with (go_at_call 200; refine (ints_Mod _ _ HX.out HY.out _).mono ?_; rintro e w1 ⟨rfl, rfl⟩)
    go_ret2
    exact ⟨rfl, inferInstance⟩
  rw [if_neg h1, if_neg h2, if_neg h3, if_neg h4, if_neg h5, if_neg h6]
  have k1 : (n.toList == [105, 110, 116, 95, 112, 108, 117, 115]) = false := ne_list h1
  have k2 : (n.toList == [105, 110, 116, 95, 116, 105, 109, 101, 115]) = false := ne_list h2
  have k3 : (n.toList == [105, 110, 116, 95, 109, 105, 110]) = false := ne_list h3
  have k4 : (n.toList == [105, 110, 116, 95, 109, 97, 120]) = false := ne_list h4
  have k5 : (n.toList == [105, 110, 116, 95, 100, 105, 118]) = false := ne_list h5
  have k6 : (n.toList == [105, 110, 116, 95, 109, 111, 100]) = false := ne_list h6
  clear h1 h2 h3 h4 h5 h6
  go_enter Tryz.func139, Tryz.ntmps139
  go_wp2_with (go_at_call 201; refine (ints_Pow _ _ HX.out HY.out _).mono ?_; rintro e w1 ⟨rfl, HB1⟩)
  go_ret2
  exact ⟨rfl, HB1⟩
/-- A constraint of three numbers. -/
def three (n : ByteArray) : Bool := !(n.toList == [105, 110, 116, 95, 97, 98, 115]) && !(preB n ⟨#[97, 114, 114, 97, 121, 95]⟩)
def meansL (n : ByteArray) (x y z : Int) : Bool × Int := if (madeL n x y).2 = 10 then (false, 10) else (decide ((madeL n x y).2 = 0) && decide ((madeL n x y).1 = z), 0)
set_option maxRecDepth 100000 in
set_option maxHeartbeats 2000000 in
theorem arith_means (n : ByteArray) (x y z : Val) (h3 : three n = true) (hx : in64 x.n = true) (hy : in64 y.n = true) : MeansIs 78 n [[x], [y], [z]] (meansL n x.n y.n z.n).1 (meansL n x.n y.n z.n).2 := by
  refine ⟨fun _ _ => Tryz.call78 _ _, ?_⟩
  intro A c W0 hc hC
  simp only [three, Bool.and_eq_true, Bool.not_eq_true'] at h3
  obtain ⟨h3a, h3b⟩ := h3
  have H3 := Lib.hid h3b
  have HX := Lib.hid hx
  have HY := Lib.hid hy
  obtain ⟨ad, A0, c0, rfl, a0, _, hC0⟩ := Sl.nth hC (k := 0) (x := [x]) rfl
  obtain ⟨ad1, A1, c1, e1, a1, _, hC1⟩ := Sl.nth hC (k := 1) (x := [y]) rfl
  cases e1
  obtain ⟨ad2, A2, c2, e2, a2, _, hC2⟩ := Sl.nth hC (k := 2) (x := [z]) rfl
  cases e2
  obtain ⟨bd0, _, _, rfl, _, b0, _, _, _⟩ := Val.nth hC0 (k := 0) (x := x) rfl
  obtain ⟨bd1, _, _, rfl, _, b1, _, _, _⟩ := Val.nth hC1 (k := 0) (x := y) rfl
  obtain ⟨bd2, _, _, rfl, _, b2, _, _, _⟩ := Val.nth hC2 (k := 0) (x := z) rfl
  clear h3b hx hy hC hC0 hC1 hC2
  simp only [Nat.zero_mul, Addr.add_zero', List.length_cons, List.length_nil, Nat.zero_add] at a0 b0 b1 b2 a1 a2
  rw [show ad.add 1 = ⟨ad.block, ad.off + 1, none⟩ from rfl] at a1
  rw [show ad.add 2 = ⟨ad.block, ad.off + 2, none⟩ from rfl] at a2
  obtain ⟨r, hr⟩ : ∃ r, madeL n x.n y.n = r := ⟨_, rfl⟩
  have hm : meansL n x.n y.n z.n = if r.2 = 10 then (false, 10) else (decide (r.2 = 0) && decide (r.1 = z.n), 0) := by unfold meansL; rw [hr]
  rw [hm]
  clear hm
  go_enter Tryz.func78, Tryz.ntmps78
  go_upto_region 9 with (go_at_call 137; refine (strings_HasPrefix _ _ _).mono ?_; rintro e1 wA ⟨rfl, rfl⟩; rw [show preB n ⟨#[97, 114, 114, 97, 121, 95]⟩ = false from H3.out])
  go_cut [9, 10] (fun a b wx => a = .int .i64 r.1 ∧ b = .int .i64 r.2 ∧ Bel wA wx)
  case first =>
    go_region_held3 (fun w' => w'.cell? ad = some (.slice (some bd0) 1 c0) ∧ w'.cell? ⟨ad.block, ad.off + 1, none⟩ = some (.slice (some bd1) 1 c1) ∧ w'.cell? ⟨bd0.block, bd0.off + 1, none⟩ = some (.int .i64 x.n) ∧ w'.cell? ⟨bd1.block, bd1.off + 1, none⟩ = some (.int .i64 y.n)) (first | go_keep | exact ⟨HB1.cell a0, HB1.cell a1, HB1.cell b0, HB1.cell b1⟩) (first | (go_at_call 139; refine (arith_made n _ _ HX.out HY.out _).mono ?_; rintro e w1 ⟨rfl, HB1⟩))
    all_goals (go_wp2_with fail; go_meet; refine ⟨rfl, rfl, ?_⟩; first | assumption | exact Bel.trans inferInstance (by assumption))
  case rest =>
    obtain ⟨rfl, rfl, hb⟩ := hcut
    replace a2 := hb.cell a2
    replace b2 := hb.cell b2
    clear hr a0 a1 b0 b1
    obtain ⟨r1, r2⟩ := r
    simp only []
    by_cases h10 : r2 = 10
    · subst h10
      go_wp2
      go_ret2
      exact ⟨rfl, hb⟩
    · have h10' : (r2 == 10) = false := by simpa using h10
      by_cases h0 : r2 = 0
      · subst h0
        go_wp2
        go_ret2
        refine ⟨?_, hb⟩
        simp
        rw [Bool.eq_iff_iff]
        simp
      · have h0' : (r2 == 0) = false := by simpa using h0
        go_wp2
        go_ret2
        exact ⟨by simp [h10, h0], hb⟩
end Go.Proofs.YtkdedpofghlmoaaGreatDoor
