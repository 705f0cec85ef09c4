/-
  ArithRenamed, where what it reads is of bulk at most 1048576: which numbers the variables have plays no part in whether a constraint of the family holds of values. Proved for every constraint, all values and every number, in every world that fits the row (the two library tables are laid as the program's text lays them).
-/
import Derived.Test.YtkdedpofghlmoaaGreatDoorO3
import Derived.Test.YtkdedpofghlmoaaGreatDoorO4
import Derived.Test.YtkdedpofghlmoaaGreatDoorRF2
set_option maxRecDepth 100000
namespace Go.Proofs.YtkdedpofghlmoaaGreatDoor.arithRenamed
open Go.ChangeShapes Go.WideShapes Go.ChangeAt Go.RowKit
theorem ml_of_shape {W : World} (hsh : W.ShapedOpen Tryz.prog) : ML W :=
  cell_of_shapedOpen_int (t := 3) (zero := #[.int .i64 0]) hsh (of_decide_eq_true (by kernel_rfl)) (by kernel_rfl) rfl (by kernel_rfl) (by kernel_rfl) Tryz.underlying3
theorem params_lt : ∀ t ∈ Tryz.f14.params.toList, t < Tryz.prog.types.size := by
  have h : (Tryz.f14.params.toList.all fun t => decide (t < Tryz.prog.types.size)) = true := by kernel_rfl
  intro t ht
  exact of_decide_eq_true (List.all_eq_true.1 h t ht)
theorem contract (H : Type) (enc : TypeId × Value → H) (W : World) (base : Nat) (args : Array Value) (ds gs : List (DataW H)) (before : List MemPlace)
    (hval : ∀ (j : Nat) t v, Tryz.f14.params[j]? = some t → args[j]? = some v → Value.okWide Tryz.prog W .any base t v)
    (hW : DataW.Whole enc Tryz.prog Tryz.f14.params.toList Rows.arithRenamedSpec.vars false W args.toList ds gs before) (hk : Rows.uptoSmall H (ds ++ gs) = true) (hsh : W.ShapedOpen Tryz.prog) :
    Calls Tryz.prog 14 args W fun e W' => ∃ v, e = .returned v ∧ Rows.arithRenamedSpec.post enc Tryz.prog Tryz.f14 false true false false W args v W' := by
  have hml := ml_of_shape hsh
  have hW' := hW
  obtain ⟨p, q, hA0, hV, rfl, hfz, hnd⟩ := hW
  have hA : DataW.TrodAll enc Tryz.prog W 0 (fun _ => true) true Tryz.f14.params.toList args.toList ds p := hA0
  rw [Tryz.params14] at hA hval
  obtain ⟨v0, vs0, d0, ds0, p0, q0, hargs, rfl, rfl, h0, r0⟩ := trodAll_cons hA
  obtain ⟨v1, vs1, d1, ds1, p1, q1, rfl, rfl, rfl, h1, r1⟩ := trodAll_cons r0
  obtain ⟨v2, vs2, d2, ds2, p2, q2, rfl, rfl, rfl, h2, r2⟩ := trodAll_cons r1
  obtain ⟨rfl, rfl, rfl⟩ := trodAll_nil r2
  obtain rfl : args = #[v0, v1, v2] := by
    apply Array.toList_inj.1
    exact hargs
  have hbulk : Rows.uptoBulk d0 ≤ 1048576 ∧ Rows.uptoBulk d1 ≤ 1048576 := by
    have h : Rows.uptoBulkAll ([d0, d1, d2] ++ gs) ≤ 1048576 := by simpa [Rows.uptoSmall] using hk
    simp only [List.cons_append, Rows.uptoBulkAll] at h
    omega
  obtain ⟨name, A, c, cargs, rfl, hC, hlc, hn, hall⟩ := con_of h0 ((okWide_struct Tryz.underlying24 (hval 0 24 v0 rfl rfl)).imp fun _ h => h.1)
  obtain ⟨B, dd, vs, rfl, hV2, hlv, hnv, hallv⟩ := vals_of h1 (okWide_slice Tryz.underlying25 (hval 1 25 v1 rfl rfl))
  obtain ⟨b, rfl, rfl, rfl, wb⟩ := open_int Tryz.underlying3 (hval 2 3 v2 rfl rfl) h2
  have hb : in64 b = true := by
    simp [Lit.wf, IntKind.min, IntKind.max, IntKind.signed, IntKind.bits] at wb
    simp only [in64, Bool.and_eq_true, decide_eq_true_eq]
    omega
  clear hA0
  refine (law_ArithRenamed name A c cargs B dd vs b W hml hC hV2 (by omega) (fun a ha => ⟨by have := (hall a ha).1; omega, fun t ht => by have := ((hall a ha).2 t ht).2.2.1; omega⟩) (by omega) hb).mono fun e W' ⟨he, hbel⟩ => ?_
  subst he
  obtain ⟨rfl, rfl⟩ := trodVars_none hV
  exact ⟨_, rfl, post_true hW' rfl params_lt rfl rfl hbel⟩
set_option maxRecDepth 100000 in
theorem lifted (os : Os) (started : os.Started) (H : Type) (enc : TypeId × Value → H) (F : Stop.Interp) :
    ReturnsInHanded {} Tryz.checked os 14 .any ((Rows.OpenSpec.upto Rows.arithRenamedSpec).preRow enc Tryz.prog Tryz.f14 Rows.arithRenamedUptoRow.domain false Rows.arithRenamedUptoRow.laid) (((Rows.OpenSpec.upto Rows.arithRenamedSpec).at F).post enc Tryz.prog Tryz.f14 false true false false) := by
  refine returnsInHanded_of_row (C := Tryz.checked) (s := Rows.OpenSpec.upto Rows.arithRenamedSpec) own started no_init Tryz.func14
    (witness_row_at (enc := enc) (C := Tryz.checked) false (laidWorld os) wit (World.laidAll_os _ _ _) (w_vars os) (w_rest os) (w_ok os) (w_row os enc)) ?_
  intro W base args ds gs before hval hW _ hcond _ hL hsh _
  exact contract H enc W base args ds gs before hval hW (hcond _ rfl) hsh
theorem saidUpto : Rows.ArithRenamedUptoSaid :=
  OpenClaim.holds_of_cond 14 Tryz.f14 rfl rfl rfl rfl rfl rfl rfl ⟨rfl, rfl, rfl, rfl, rfl⟩ rfl rfl rfl rfl rfl named Tryz.func14 closed inst wrap
    (fun os started H enc _ F => by rw [OpenClaim.pre_eq_preRow]; exact lifted os started H enc F)
theorem plain (f : FuncId) (fn : Func) (hf : Tryz.pinned.checked.prog.funcNamed "jigsaw/jigsawlaw08.ArithRenamed" = some f) (hfn : Tryz.pinned.checked.prog.funcs[f]? = some fn) :
    false = Tryz.pinned.checked.prog.looks [] ∧ ∀ (j : Nat) t, fn.params[j]? = some t → Tryz.pinned.checked.prog.wantsStandIn t = false := by
  obtain rfl : f = 14 := Option.some.inj (named2.symm.trans hf) |>.symm
  obtain rfl : fn = Tryz.f14 := (Option.some.inj (Tryz.func14.symm.trans hfn)).symm
  refine ⟨nolooks, fun j t ht => ?_⟩
  rw [Tryz.params14] at ht
  have hm : t ∈ [24, 25, 3] := by simpa using Array.mem_of_getElem? ht
  simp only [List.mem_cons, List.mem_nil_iff, or_false] at hm
  rcases hm with rfl | rfl | rfl
  · exact nostand24
  · exact nostand25
  · exact nostand3
/-- The card. -/
theorem cardUpto : Rows.ArithRenamedUptoCardSaid :=
  Claim7.holds_tied_plain_at .later [] _ _ _ _ saidUpto (fun _ h => by cases h) c_wf (fun _ h => by cases h) arithRenamedUpto_row_tie rfl ⟨rfl, rfl⟩ c_main rfl plain c_goes
end Go.Proofs.YtkdedpofghlmoaaGreatDoor.arithRenamed
