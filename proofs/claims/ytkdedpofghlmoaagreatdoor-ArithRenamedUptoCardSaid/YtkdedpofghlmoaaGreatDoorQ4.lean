/- The walk of the arithmetic law's known calls. No statement is proved here. -/
import Derived.Test.YtkdedpofghlmoaaGreatDoorQ2
import Derived.Test.YtkdedpofghlmoaaGreatDoorW4
set_option linter.unusedVariables false
set_option linter.unusedSimpArgs false
namespace Go.Proofs.YtkdedpofghlmoaaGreatDoor
open Go.RowKit Go.Proofs.YtkdedpofghlmoaaGreatDoorW.PrintWords
theorem form_n {n : ByteArray} (h : Name3 n) : (findR n).form.size < 4294967281 := by
  rw [h.row]
  exact (by decide : form3.size < 4294967281)
theorem part_n {n : ByteArray} (h : Name3 n) : ∀ p ∈ partsL (findR n).form, p.size ≤ 1000 := by
  rw [h.row, parts3]
  intro p hp
  have : p = part1 := by simpa using hp
  subst this
  exact (by decide : part1.size ≤ 1000)
theorem last_is_one {n : ByteArray} (h3 : Name3 n) {x y q : Int} {p : Int → Bool} {A : Option Addr} {c : Nat} {u W : World} {g gd dc gr cr : Nat} {dcs : Array Value} {va : Option Addr} {vc : Nat} (hml : ML W) (ha : kArg.C W A 3 (a3 x y))
    (HM : ∀ z, MeansIs 78 n (valuesL [⟨false, z, []⟩] (a3 x y)) (p z) 0) (hq : leftL p (vals (takenL l9)) = [⟨false, q, []⟩]) (hiq : inB q = true)
    (hP : PrAt u W n (.slice A 3 c) false g gd dc gr cr dcs (-9) 9) (hv : (Kd.int .i64).C W va 1 [0]) :
    Calls Tryz.prog 109 #[.pointer (some ⟨g, 0, none⟩), .slice va 1 vc, .func (.func 78) #[] #[]] W (LastIs W gd 0 q) := by
  obtain ⟨z0, z1, z2, z3, z4, z5⟩ := hP.cells
  refine (last_one (l := l9) (args := a3 x y) (p := p) (q := q) (vc := vc) hP.hcr hP.rng z0 z1 z2 z3 z4 z5 hml ha (by simp [tA]) (by simp) (truthsL3 h3) (form_n h3) (part_n h3) hP.row HM hq hiq hP.dom (by rw [vals_l9]; decide) hv (by rw [size_l9]; decide) (by rw [size_l9]; decide)).mono ?_
  rintro e' w' ⟨rfl, gr', cr', h1, h2, h3, h4, h5, h6, h7, h8, h9⟩
  exact .inr ⟨rfl, rfl, gr', cr', h1, h2, h3, h4, h5, h6, h7, h8, h9⟩
theorem last_is_err {n : ByteArray} (h3 : Name3 n) {x y q e : Int} {p : Int → Bool} {A : Option Addr} {c : Nat} {u W : World} {g gd dc gr cr : Nat} {dcs : Array Value} {va : Option Addr} {vc : Nat} (hml : ML W) (ha : kArg.C W A 3 (a3 x y))
    (HM : ∀ z, MeansIs 78 n (valuesL [⟨false, z, []⟩] (a3 x y)) (p z) e) (he : (e == 0) = false)
    (hP : PrAt u W n (.slice A 3 c) false g gd dc gr cr dcs (-9) 9) (hv : (Kd.int .i64).C W va 1 [0]) :
    Calls Tryz.prog 109 #[.pointer (some ⟨g, 0, none⟩), .slice va 1 vc, .func (.func 78) #[] #[]] W (LastIs W gd e q) := by
  obtain ⟨z0, z1, z2, z3, z4, z5⟩ := hP.cells
  refine (last_err (l := l9) (args := a3 x y) (p := p) (dd := ⟨gd, 0, none⟩) (vc := vc) hP.hcr hP.rng z0 z1 z2 z3 z4 z5 hml ha (by simp [tA]) (by simp) (truthsL3 h3) (form_n h3) (part_n h3) hP.row HM he (by rw [vals_l9]; decide) (by rw [vals_l9]; decide) hv (by rw [size_l9]; decide) (by rw [size_l9]; decide)).mono ?_
  rintro e' w' ⟨rfl, hb⟩
  exact .inl ⟨he, rfl, hb⟩
theorem means_div (z : Int) : meansL nDiv (-7) 2 z = (decide ((-3 : Int) = z), 0) := by
  unfold meansL
  rw [made_div72]
  simp
theorem means_pow (z : Int) : meansL nPow 10 20 z = (false, 10) := by
  unfold meansL
  rw [made_pow]
  rfl
theorem PrunePost.low {w w1 : World} {e q : Int} {e' : Ending} {w' : World} (h : PrunePost w1 e q e' w') (hb : Bel w w1) : PrunePost w e q e' w' := ⟨hb.trans h.1, h.2⟩
theorem prune_div (A : Option Addr) (c : Nat) (dd : Addr) (dc : Nat) (RA : Option Addr) (rc : Nat) (w : World) (hml : ML w) (ha : kArg.C w A 3 (a3 (-7) 2))
    (hrc : 1 ≤ rc) (hR : kRng.C w RA 1 l9) (d0 : w.cell? dd = some (.bool false)) (d1 : w.cell? ⟨dd.block, dd.off + 1, none⟩ = some (.slice RA 1 rc))
    (d2 : w.cell? ⟨dd.block, dd.off + 2, none⟩ = some (.slice none 0 0)) (d3 : w.cell? ⟨dd.block, dd.off + 3, none⟩ = some (.slice none 0 0)) (d4 : w.cell? ⟨dd.block, dd.off + 4, none⟩ = some (.int .i64 0)) (d5 : w.cell? ⟨dd.block, dd.off + 5, none⟩ = some (.int .i64 0)) :
    Calls Tryz.prog 59 #[.agg #[.string nDiv, .slice A 3 c], .slice (some dd) 1 dc, .string arithFam, .func (.func 78) #[] #[], .func (.func 85) #[] #[]] w (PrunePost w 0 (-3)) := by
  refine tool_Prune1 name_div A c dd dc RA rc w hml ha (by decide) (by decide) hrc hR d0 d1 d2 d3 d4 d5 (fun g D W hg hb => ?_) (fun u W g gd dc gr cr dcs va vc hb hP hv => ?_) (fun _ => same_l9)
  · exact tighten_div g A c D false (tA (cT (-7))) (tA vT) 2 W hg (by decide) (Kd.now ha hb)
  · refine last_is_one name_div (p := fun z => decide ((-3 : Int) = z)) (hml.bel hb) (Kd.now ha hb) (fun z => ?_) ?_ (by decide) hP hv
    · have h := means_a3 name_div (x := -7) (y := 2) (by decide) (by decide) z
      rw [means_div] at h
      exact h
    · rw [vals_l9]
      decide
theorem prune_pow (A : Option Addr) (c : Nat) (dd : Addr) (dc : Nat) (RA : Option Addr) (rc : Nat) (w : World) (hml : ML w) (ha : kArg.C w A 3 (a3 10 20))
    (hrc : 1 ≤ rc) (hR : kRng.C w RA 1 l9) (d0 : w.cell? dd = some (.bool false)) (d1 : w.cell? ⟨dd.block, dd.off + 1, none⟩ = some (.slice RA 1 rc))
    (d2 : w.cell? ⟨dd.block, dd.off + 2, none⟩ = some (.slice none 0 0)) (d3 : w.cell? ⟨dd.block, dd.off + 3, none⟩ = some (.slice none 0 0)) (d4 : w.cell? ⟨dd.block, dd.off + 4, none⟩ = some (.int .i64 0)) (d5 : w.cell? ⟨dd.block, dd.off + 5, none⟩ = some (.int .i64 0)) :
    Calls Tryz.prog 59 #[.agg #[.string nPow, .slice A 3 c], .slice (some dd) 1 dc, .string arithFam, .func (.func 78) #[] #[], .func (.func 85) #[] #[]] w (PrunePost w 10 0) := by
  refine tool_Prune1 name_pow A c dd dc RA rc w hml ha (by decide) (by decide) hrc hR d0 d1 d2 d3 d4 d5 (fun g D W hg hb => ?_) (fun u W g gd dc gr cr dcs va vc hb hP hv => ?_) (fun h => by cases h)
  · exact tighten_pow g _ D false W ⟨_, _, _, rfl⟩ hg
  · refine last_is_err name_pow (p := fun _ => false) (hml.bel hb) (Kd.now ha hb) (fun z => ?_) (by decide) hP hv
    have h := means_a3 name_pow (x := 10) (y := 20) (by decide) (by decide) z
    rw [means_pow] at h
    exact h
set_option maxHeartbeats 1000000 in
theorem arith_Prune {n : ByteArray} {A : Option Addr} {c : Nat} {D : Value} {e q : Int} (w : World) (H : ∀ (W : World), Bel w W → Calls Tryz.prog 59 #[.agg #[.string n, .slice A 3 c], D, .string arithFam, .func (.func 78) #[] #[], .func (.func 85) #[] #[]] W (PrunePost W e q)) (hD : ∃ a m k, D = .slice a m k) :
    Calls Tryz.prog 41 #[.agg #[.string n, .slice A 3 c], D] w (PrunePost w e q) := by
  obtain ⟨a, m, k, rfl⟩ := hD
  have HH := Lib.hid H
  clear H
  unfold arithFam at HH
  go_enter Tryz.func41, Tryz.ntmps41
  go_wp2_with fail
  refine (HH.out _ inferInstance).mono ?_
  rintro e' w1 ⟨hb, h⟩
  rcases h with ⟨he, rfl⟩ | ⟨he, gd, dc, gr, cr, rfl, hr⟩
  · have HE := Lib.hid he
    go_wp2
    go_returns
    exact ⟨Bel.trans inferInstance hb, .inl ⟨HE.out, rfl⟩⟩
  · have HR := Lib.hid hr
    have HE := Lib.hid he
    clear hr he
    go_wp2
    go_returns
    exact ⟨Bel.trans inferInstance hb, .inr ⟨HE.out, gd, dc, gr, cr, rfl, HR.out⟩⟩
end Go.Proofs.YtkdedpofghlmoaaGreatDoor
set_option linter.unusedVariables false
set_option linter.unusedSimpArgs false
namespace Go.Proofs.YtkdedpofghlmoaaGreatDoor
open Go.RowKit Go.Proofs.YtkdedpofghlmoaaGreatDoorW.PrintWords
theorem holds_mod : HoldsL arithFam nMod (a3 (-7) 2) [⟨false, -1, []⟩] (meansL nMod (-7) 2 (-1)).1 (meansL nMod (-7) 2 (-1)).2 = (true, 0) := by
  have hm : meansL nMod (-7) 2 (-1) = (true, 0) := by
    unfold meansL
    rw [show madeL nMod (-7) 2 = (-1, 0) from by decide]
    rfl
  unfold HoldsL
  rw [show List.map Val.set [(⟨false, -1, []⟩ : Val)] = [false] from rfl, right_a3 name_mod (by decide) (by decide), row_mod, vars_a3, hm]
  simp [rightVars, rightValB]
theorem holds_fix (A : Option Addr) (c : Nat) (B : Option Addr) (d : Nat) (w : World) (hm : ML w) (ha : kArg.C w A 3 (a3 (-7) 2)) (hv : kVal.C w B 1 [⟨false, -1, []⟩]) :
    Calls Tryz.prog 38 #[.agg #[.string nMod, .slice A 3 c], .slice B 1 d] w fun e w' => e = .returned (.tuple #[.bool true, .int .i64 0]) ∧ Bel w w' := by
  have h := arith_Holds3 name_mod (t0 := cT (-7)) (t1 := cT 2) (t2 := vT) (vs := [⟨false, -1, []⟩]) (b := (meansL nMod (-7) 2 (-1)).1) (x := (meansL nMod (-7) 2 (-1)).2) A c B d w hm ha hv (fun _ _ => means_a3 name_mod (by decide) (by decide) (-1)) (by simp)
  rw [holds_mod] at h
  exact h
theorem lit_l9 (w : World) : kRng.C (w.alloc (.cells #[.int .i64 (-9), .int .i64 9] 101)) (some ⟨w.heap.size, 0, none⟩) 1 l9 := by
  refine C_of_at (xs := l9) (by simp) ?_
  intro j x hx
  match j, hx with
  | 0, hx =>
    obtain rfl : (⟨-9, 9⟩ : Rng) = x := by simpa using hx
    refine ⟨_, kRng_mk _ _, fun i u hu => ?_⟩
    rw [Nat.zero_mul, Nat.zero_add]
    exact at_lit i (by simpa using hu)
theorem lit_v1 (w : World) (n : Int) : kVal.C (w.alloc (.cells #[.bool false, .int .i64 n, .slice none 0 0] 53)) (some ⟨w.heap.size, 0, none⟩) 1 [⟨false, n, []⟩] := by
  refine C_of_at (xs := [(⟨false, n, []⟩ : Val)]) (by simp) ?_
  intro j x hx
  match j, hx with
  | 0, hx =>
    obtain rfl : (⟨false, n, []⟩ : Val) = x := by simpa using hx
    refine ⟨_, kVal_mk _ (⟨false, n, []⟩ : Val) (A2 := none) (c2 := 0) (by simp) (Kd.C_nil _ _), fun i u hu => ?_⟩
    rw [Nat.zero_mul, Nat.zero_add]
    exact at_lit i (by simpa using hu)
theorem lit_fix (w : World) (k : Nat) (hk : w.heap.size = k) {x y : Int} {A1 A2 : Option Addr} {c1 c2 : Nat} {ad : Addr} (l1 : 1 ≤ c1) (l2 : 1 ≤ c2) (h1 : kTerm.C w A1 1 [cT x]) (h2 : kTerm.C w A2 1 [cT y]) (h3 : kTerm.C w (some ad) 1 [vT]) :
    kArg.C (w.alloc (.cells #[.bool false, .slice A1 1 c1, .bool false, .slice A2 1 c2, .bool false, .slice (some ad) 1 1] 62)) (some ⟨k, 0, none⟩) 3 (a3 x y) := by
  subst hk
  exact lit_Args3 w (cA x) (cA y) (tA vT) l1 l2 (Nat.le_refl 1) h1 h2 h3
theorem lit_v2 (w : World) (k : Nat) (hk : w.heap.size = k) (n : Int) : kVal.C (w.alloc (.cells #[.bool false, .int .i64 n, .slice none 0 0] 53)) (some ⟨k, 0, none⟩) 1 [⟨false, n, []⟩] := by
  subst hk
  exact lit_v1 w n
/-- What the law's own literals are, in memory. -/
structure KnAt (w wz : World) : Prop where
  bel : Bel w wz
  vt : kTerm.C wz (some ⟨w.heap.size, 0, none⟩) 1 [vT]
  rng : kRng.C wz (some ⟨w.heap.size + 1 + 1, 0, none⟩) 1 l9
  arg : wz.heap[w.heap.size + 1]? = some (.cells #[.bool false, .slice (some ⟨w.heap.size, 0, none⟩) 1 1] 62 (0, 0))
  dom : wz.heap[w.heap.size + 1 + 1 + 1]? = some (.cells #[.bool false, .slice (some ⟨w.heap.size + 1 + 1, 0, none⟩) 1 1, .slice none 0 0, .slice none 0 0, .int .i64 0, .int .i64 0] 49 (0, 0))
theorem knAt (w : World) : KnAt w ((((w.alloc (.cells #[.int .i64 0, .bool false, .int .i64 0, .slice none 0 0] 64)).alloc (.cells #[.bool false, .slice (some ⟨w.heap.size, 0, none⟩) 1 1] 62)).alloc (.cells #[.int .i64 (-9), .int .i64 9] 101)).alloc
    (.cells #[.bool false, .slice (some ⟨w.heap.size + 1 + 1, 0, none⟩) 1 1, .slice none 0 0, .slice none 0 0, .int .i64 0, .int .i64 0] 49)) := by
  refine ⟨inferInstance, Kd.now (show kTerm.C (w.alloc (.cells #[.int .i64 0, .bool false, .int .i64 0, .slice none 0 0] 64)) (some ⟨w.heap.size, 0, none⟩) 1 [vT] from lit_Term w vT (A := none) (c := 0) (by simp [vT]) (Kd.C_nil _ _)) inferInstance, Kd.now (by simpa using lit_l9 ((w.alloc (.cells #[.int .i64 0, .bool false, .int .i64 0, .slice none 0 0] 64)).alloc (.cells #[.bool false, .slice (some ⟨w.heap.size, 0, none⟩) 1 1] 62))) inferInstance, ?_, ?_⟩
  · rw [heap_alloc_old _ _ (by simp), heap_alloc_old _ _ (by simp)]
    exact heap_at (by simp)
  · exact heap_at (by simp)
def DomAt (w' : World) (gd gr cr : Nat) (q : Int) : Prop := 1 ≤ cr ∧ kRng.C w' (some ⟨gr, 0, none⟩) 1 [⟨q, q⟩] ∧ w'.cell? ⟨gd, 0, none⟩ = some (.bool false) ∧ w'.cell? ⟨gd, 1, none⟩ = some (.slice (some ⟨gr, 0, none⟩) 1 cr) ∧ w'.cell? ⟨gd, 2, none⟩ = some (.slice none 0 0) ∧ w'.cell? ⟨gd, 3, none⟩ = some (.slice none 0 0) ∧
    w'.cell? ⟨gd, 4, none⟩ = some (.int .i64 0) ∧ w'.cell? ⟨gd, 5, none⟩ = some (.int .i64 0)
set_option maxRecDepth 100000 in
set_option maxHeartbeats 4000000 in
theorem law_known (w : World) (hml : ML w) : Calls Tryz.prog 40 #[] w fun e w' => e = .returned (.bool true) ∧ Bel w w' := by
  have HML := Lib.hid hml
  have hZ := knAt w
  clear hml
  go_enter Tryz.func40, Tryz.ntmps40
  go_upto_region 3 with fail
  obtain ⟨wz, hwz⟩ : ∃ wz, ((((w.alloc (.cells #[.int .i64 0, .bool false, .int .i64 0, .slice none 0 0] 64)).alloc (.cells #[.bool false, .slice (some ⟨w.heap.size, 0, none⟩) 1 1] 62)).alloc (.cells #[.int .i64 (-9), .int .i64 9] 101)).alloc
    (.cells #[.bool false, .slice (some ⟨w.heap.size + 1 + 1, 0, none⟩) 1 1, .slice none 0 0, .slice none 0 0, .int .i64 0, .int .i64 0] 49)) = wz := ⟨_, rfl⟩
  rw [hwz] at hZ ⊢
  clear hwz
  have HZ := Lib.hid hZ
  have a0 : ∀ (V : World) [Bel wz V], V.cell? ⟨w.heap.size + 1, 0, none⟩ = some (.bool false) := fun V h => h.cell (row_cell hZ.arg 0)
  have a1 : ∀ (V : World) [Bel wz V], V.cell? ⟨w.heap.size + 1, 1, none⟩ = some (.slice (some ⟨w.heap.size, 0, none⟩) 1 1) := fun V h => h.cell (row_cell hZ.arg 1)
  have d0 : ∀ (V : World) [Bel wz V], V.cell? ⟨w.heap.size + 1 + 1 + 1, 0, none⟩ = some (.bool false) := fun V h => h.cell (row_cell hZ.dom 0)
  have d1 : ∀ (V : World) [Bel wz V], V.cell? ⟨w.heap.size + 1 + 1 + 1, 1, none⟩ = some (.slice (some ⟨w.heap.size + 1 + 1, 0, none⟩) 1 1) := fun V h => h.cell (row_cell hZ.dom 1)
  have d2 : ∀ (V : World) [Bel wz V], V.cell? ⟨w.heap.size + 1 + 1 + 1, 2, none⟩ = some (.slice none 0 0) := fun V h => h.cell (row_cell hZ.dom 2)
  have d3 : ∀ (V : World) [Bel wz V], V.cell? ⟨w.heap.size + 1 + 1 + 1, 3, none⟩ = some (.slice none 0 0) := fun V h => h.cell (row_cell hZ.dom 3)
  have d4 : ∀ (V : World) [Bel wz V], V.cell? ⟨w.heap.size + 1 + 1 + 1, 4, none⟩ = some (.int .i64 0) := fun V h => h.cell (row_cell hZ.dom 4)
  have d5 : ∀ (V : World) [Bel wz V], V.cell? ⟨w.heap.size + 1 + 1 + 1, 5, none⟩ = some (.int .i64 0) := fun V h => h.cell (row_cell hZ.dom 5)
  clear hZ
  go_cut [3, 4, 5] from 18 to 28 (fun a b c wx => ∃ gd dc gr cr, a = .slice (some ⟨gd, 0, none⟩) 1 dc ∧ b = .int .i64 1 ∧ c = .int .i64 0 ∧ Hid (DomAt wx gd gr cr (-3)) ∧ Hid (Bel wz wx))
  case first =>
    go_region_held3 (fun V => Bel wz V) (first | exact inferInstance | fail) (first | (go_at_call 83; have _ := K1.out; refine (law_term _ _).mono ?_; rintro e2 wa2 ⟨A2, c2, rfl, l2, C2, HB2⟩; have K2 := Lib.hid C2; clear C2; have q2 := Bel.trans (inferInstance : Bel wz _) HB2) | (go_at_call 83; refine (law_term _ _).mono ?_; rintro e1 wa1 ⟨A1, c1, rfl, l1, C1, HB1⟩; have K1 := Lib.hid C1; clear C1; have q1 := Bel.trans (inferInstance : Bel wz _) HB1) | (go_at_call 41; refine (arith_Prune _ (fun W hW => prune_div (some ⟨wa2.heap.size, 0, none⟩) 3 ⟨w.heap.size + 1 + 1 + 1, 0, none⟩ 1 (some ⟨w.heap.size + 1 + 1, 0, none⟩) 1 W (HML.out.bel (HZ.out.bel.trans (Bel.trans inferInstance hW))) (Kd.now (lit_Args3 wa2 (cA (-7)) (cA 2) (tA vT) l1 l2 (Nat.le_refl 1) (Kd.now K1.out inferInstance) K2.out (Kd.now HZ.out.vt inferInstance)) hW) (Nat.le_refl 1) (Kd.now HZ.out.rng (Bel.trans inferInstance hW)) (@d0 W (Bel.trans inferInstance hW)) (@d1 W (Bel.trans inferInstance hW)) (@d2 W (Bel.trans inferInstance hW)) (@d3 W (Bel.trans inferInstance hW)) (@d4 W (Bel.trans inferInstance hW)) (@d5 W (Bel.trans inferInstance hW))) ⟨_, _, _, rfl⟩).mono ?_; rintro e3 wp ⟨HBp, hp⟩; obtain ⟨_, gd, dc, gr, cr, rfl, hd⟩ := hp.resolve_left (fun h => by simp at h); have HD := Lib.hid hd; clear hd hp; have qp := Bel.trans (inferInstance : Bel wz _) HBp))
    all_goals
      go_wp2_with fail
      go_meet
      exact ⟨gd, dc, gr, cr, rfl, rfl, rfl, Lib.hid HD.out, Lib.hid qp⟩
  case rest =>
    obtain ⟨gd, dc, gr, cr, rfl, rfl, rfl, HD, HB⟩ := hcut
    have hbz := HB.out
    go_upto_region 4 with fail
    go_cut [6, 7, 8] from 29 to 39 (fun a b c wx => a = .slice none 0 0 ∧ b = .int .i64 0 ∧ c = .int .i64 10 ∧ Hid (Bel wz wx) ∧ Hid (Bel wc wx))
    case first =>
      go_region_held3 (fun V => Bel wz V ∧ Bel wc V) (first | exact ⟨inferInstance, inferInstance⟩ | fail) (first | (go_at_call 83; have _ := K1.out; refine (law_term _ _).mono ?_; rintro e2 wa2 ⟨A2, c2, rfl, l2, C2, HB2⟩; have K2 := Lib.hid C2; clear C2; have q2 := Bel.trans (inferInstance : Bel wz _) HB2; have p2 := Bel.trans (inferInstance : Bel wc _) HB2) | (go_at_call 83; refine (law_term _ _).mono ?_; rintro e1 wa1 ⟨A1, c1, rfl, l1, C1, HB1⟩; have K1 := Lib.hid C1; clear C1; have q1 := Bel.trans (inferInstance : Bel wz _) HB1; have p1 := Bel.trans (inferInstance : Bel wc _) HB1) | (go_at_call 41; refine (arith_Prune _ (fun W hW => prune_pow (some ⟨wa2.heap.size, 0, none⟩) 3 ⟨w.heap.size + 1 + 1 + 1, 0, none⟩ 1 (some ⟨w.heap.size + 1 + 1, 0, none⟩) 1 W (HML.out.bel (HZ.out.bel.trans (Bel.trans inferInstance hW))) (Kd.now (lit_Args3 wa2 (cA 10) (cA 20) (tA vT) l1 l2 (Nat.le_refl 1) (Kd.now K1.out inferInstance) K2.out (Kd.now HZ.out.vt inferInstance)) hW) (Nat.le_refl 1) (Kd.now HZ.out.rng (Bel.trans inferInstance hW)) (@d0 W (Bel.trans inferInstance hW)) (@d1 W (Bel.trans inferInstance hW)) (@d2 W (Bel.trans inferInstance hW)) (@d3 W (Bel.trans inferInstance hW)) (@d4 W (Bel.trans inferInstance hW)) (@d5 W (Bel.trans inferInstance hW))) ⟨_, _, _, rfl⟩).mono ?_; rintro e3 wp ⟨HBp, hp⟩; obtain ⟨_, rfl⟩ := hp.resolve_right (fun h => by simp at h); have qp := Bel.trans (inferInstance : Bel wz _) HBp; have qc := Bel.trans (inferInstance : Bel wc _) HBp))
      all_goals
        go_wp2_with fail
        go_meet
        exact ⟨rfl, rfl, rfl, Lib.hid qp, Lib.hid qc⟩
    case rest =>
      obtain ⟨rfl, rfl, rfl, HB3, HB4⟩ := hcut
      have hby := HB3.out
      have hcy := HB4.out
      go_upto_region 5 with fail
      go_cut [9, 10] from 40 to 50 (fun a b wx => a = .bool true ∧ b = .int .i64 0 ∧ Hid (Bel wc wx))
      case first =>
        go_region_held3 (fun V => Bel wz V ∧ Bel wc V) (first | exact ⟨inferInstance, inferInstance⟩ | fail) (first | (go_at_call 83; have _ := K1.out; refine (law_term _ _).mono ?_; rintro e2 wa2 ⟨A2, c2, rfl, l2, C2, HB2⟩; have K2 := Lib.hid C2; clear C2; have q2 := Bel.trans (inferInstance : Bel wz _) HB2; have p2 := Bel.trans (inferInstance : Bel wc _) HB2; have r2 := Bel.trans (inferInstance : Bel wa1 _) HB2) | (go_at_call 83; refine (law_term _ _).mono ?_; rintro e1 wa1 ⟨A1, c1, rfl, l1, C1, HB1⟩; have K1 := Lib.hid C1; clear C1; have q1 := Bel.trans (inferInstance : Bel wz _) HB1; have p1 := Bel.trans (inferInstance : Bel wc _) HB1) | (go_at_call 38; refine (holds_fix _ _ _ _ _ (HML.out.bel (HZ.out.bel.trans inferInstance)) (by first | exact lit_fix _ _ (by simp) l1 l2 (Kd.now K1.out inferInstance) (Kd.now K2.out inferInstance) (Kd.now HZ.out.vt inferInstance) | exact Kd.now (lit_fix wa2 _ rfl l1 l2 (Kd.now K1.out inferInstance) (Kd.now K2.out inferInstance) (Kd.now HZ.out.vt inferInstance)) inferInstance | fail) (by first | exact lit_v2 _ _ (by simp) (-1) | exact Kd.now (lit_v2 wa2 _ rfl (-1)) inferInstance | exact Kd.now (by exact lit_v2 _ _ (by simp) (-1)) (HB2.trans inferInstance) | exact Kd.now (by exact lit_v2 _ _ (by simp) (-1)) (HB1.trans (r2.trans inferInstance)) | fail)).mono ?_; rintro e6 wh ⟨rfl, HB6⟩; have qh := Bel.trans (inferInstance : Bel wz _) HB6; have ph := Bel.trans (inferInstance : Bel wc _) HB6))
        all_goals
          go_wp2_with fail
          go_meet
          exact ⟨rfl, rfl, Lib.hid ph⟩
      case rest =>
        obtain ⟨rfl, rfl, HB7⟩ := hcut
        have hd := HD.out
        have hb := HB4.out.trans HB7.out
        have y0 : ∀ (V : World) [Bel wc V], V.cell? ⟨gd, 0, none⟩ = some (.bool false) := fun V h => h.cell (hb.cell hd.2.2.1)
        have y1 : ∀ (V : World) [Bel wc V], V.cell? ⟨gd, 1, none⟩ = some (.slice (some ⟨gr, 0, none⟩) 1 cr) := fun V h => h.cell (hb.cell hd.2.2.2.1)
        have y2 : ∀ (V : World) [Bel wc V], V.cell? ⟨gd, 2, none⟩ = some (.slice none 0 0) := fun V h => h.cell (hb.cell hd.2.2.2.2.1)
        have y3 : ∀ (V : World) [Bel wc V], V.cell? ⟨gd, 3, none⟩ = some (.slice none 0 0) := fun V h => h.cell (hb.cell hd.2.2.2.2.2.1)
        have y4 : ∀ (V : World) [Bel wc V], V.cell? ⟨gd, 4, none⟩ = some (.int .i64 0) := fun V h => h.cell (hb.cell hd.2.2.2.2.2.2.1)
        have y5 : ∀ (V : World) [Bel wc V], V.cell? ⟨gd, 5, none⟩ = some (.int .i64 0) := fun V h => h.cell (hb.cell hd.2.2.2.2.2.2.2)
        have HR := Lib.hid (Kd.now hd.2.1 hb)
        have HBW := Lib.hid (HZ.out.bel.trans (HB3.out.trans HB7.out))
        have hcr := hd.1
        clear a0 a1 d0 d1 d2 d3 d4 d5 hb hd hbz hby hcy
        go_wp2_with fail
        refine (law_Least (some ⟨gr, 0, none⟩) [⟨-3, -3⟩] cr undef undef undef undef _ hcr (Kd.now HR.out inferInstance)).mono ?_
        rintro e8 w8 ⟨rfl, HB8⟩
        rw [show (minR [⟨-3, -3⟩]).1 = -3 from rfl]
        have q8 : Bel wc w8 := Bel.trans inferInstance HB8
        clear HB8
        go_wp2_with fail
        refine (law_Greatest (some ⟨gr, 0, none⟩) [⟨-3, -3⟩] cr _ hcr (Kd.now HR.out inferInstance)).mono ?_
        rintro e9 w9 ⟨rfl, HB9⟩
        rw [show (maxL [⟨-3, -3⟩]).1 = -3 from rfl]
        have q9 : Bel wc w9 := Bel.trans inferInstance HB9
        clear HB9 q8
        go_wp2
        go_ret
        exact ⟨rfl, HBW.out.trans q9⟩
end Go.Proofs.YtkdedpofghlmoaaGreatDoor
