/- The walk of ArithRenamed. No statement is proved here. -/
import Derived.Test.YtkdedpofghlmoaaGreatDoorM3
import Derived.Test.YtkdedpofghlmoaaGreatDoorA3
import Derived.Test.YtkdedpofghlmoaaGreatDoorA4
import Derived.Test.YtkdedpofghlmoaaGreatDoorQ4
set_option linter.unusedVariables false
set_option linter.unusedSimpArgs false
namespace Go.Proofs.YtkdedpofghlmoaaGreatDoor
open Go.RowKit Go.Proofs.YtkdedpofghlmoaaGreatDoorW.PrintWords
theorem shift_inj {n s a b : Nat} (ha : a < n) (hb : b < n) (h : (a + s) % n = (b + s) % n) : a = b := by
  have h1 := Nat.div_add_mod (a + s) n
  have h2 := Nat.div_add_mod (b + s) n
  rcases Nat.lt_trichotomy ((a + s) / n) ((b + s) / n) with h3 | h3 | h3
  · have h4 : n * ((a + s) / n + 1) ≤ n * ((b + s) / n) := Nat.mul_le_mul_left n h3
    rw [Nat.mul_add, Nat.mul_one] at h4
    omega
  · rw [h3] at h1
    omega
  · have h4 : n * ((b + s) / n + 1) ≤ n * ((a + s) / n) := Nat.mul_le_mul_left n h3
    rw [Nat.mul_add, Nat.mul_one] at h4
    omega
theorem putL_get (s : Nat) (vs : List Val) : ∀ m, m ≤ vs.length → ∀ k, k < m → (putL s vs m)[(k + s) % vs.length]? = some (vs.getD k ⟨false, 0, []⟩)
  | 0, _, k, hk => by omega
  | m + 1, hm, k, hk => by
    rw [putL]
    have hn : 0 < vs.length := by omega
    by_cases e : k = m
    · subst e
      rw [List.getElem?_set_self (by rw [putL_len]; exact Nat.mod_lt _ hn)]
    · rw [List.getElem?_set_ne (fun h => e (shift_inj (n := vs.length) (s := s) (by omega) (by omega) h.symm))]
      exact putL_get s vs m (by omega) k (by omega)
theorem putL_getD {s : Nat} {vs : List Val} {k : Nat} (hk : k < vs.length) : (putL s vs vs.length).getD ((k + s) % vs.length) v0 = vs.getD k v0 := by
  rw [List.getD_eq_getElem?_getD, putL_get s vs _ (Nat.le_refl _) k hk]
  rfl
/-- Where a variable goes. -/
theorem renT_in {s n : Nat} {t : Term} (h : 0 ≤ t.var ∧ t.var < n) : (renT s n t).var = (((t.var.toNat + s) % n : Nat) : Int) ∧ (renT s n t).c = t.c ∧ (t.var.toNat + s) % n < n ∧ t.var.toNat < n := by
  rw [renT, if_pos h]
  refine ⟨?_, rfl, Nat.mod_lt _ (by omega), by omega⟩
  show (t.var + s) % (n : Int) = _
  obtain ⟨m, hm⟩ : ∃ m : Nat, t.var = m := ⟨t.var.toNat, by omega⟩
  rw [hm, Int.toNat_natCast]
  simp
theorem ofT_ren (s : Nat) (vs : List Val) (t : Term) : ofT (putL s vs vs.length) (renT s vs.length t) = ofT vs t := by
  by_cases h : 0 ≤ t.var ∧ t.var < vs.length
  · obtain ⟨h1, h2, h3, h4⟩ := renT_in (s := s) h
    unfold ofT
    rw [h1, if_neg (by omega), if_neg (by rw [putL_len]; omega), if_neg (by omega), if_neg (by omega), Int.toNat_natCast]
    rw [show (⟨false, 0, []⟩ : Val) = v0 from rfl, putL_getD h4]
  · have h1 : renT s vs.length t = t := by rw [renT, if_neg h]
    rw [h1]
    unfold ofT
    by_cases h2 : t.var = -1
    · rw [if_pos h2, if_pos h2]
    · rw [if_neg h2, if_neg h2, if_pos (by rw [putL_len]; omega), if_pos (by omega)]
theorem values_ren (s : Nat) (vs : List Val) (args : List Arg) : valuesL (putL s vs vs.length) (args.map (renA s vs.length)) = valuesL vs args := by
  unfold valuesL
  rw [List.map_map]
  refine List.map_congr_left fun a _ => ?_
  show ((renA s vs.length a).l.map fun t => (ofT (putL s vs vs.length) t).1) = _
  rw [renA, List.map_map]
  refine List.map_congr_left fun t _ => ?_
  show (ofT (putL s vs vs.length) (renT s vs.length t)).1 = _
  rw [ofT_ren]
theorem numR_var {v v' : Int} {st : Bool} {n : Int} {m : Nat} {lo hi : Int} (h : 0 ≤ v) (h' : 0 ≤ v') : numR v st n m lo hi = numR v' st n m lo hi := by
  unfold numR
  rw [decide_eq_false (show ¬ v = -1 by omega), decide_eq_false (show ¬ v' = -1 by omega)]
theorem setR_var {v v' : Int} {st : Bool} {n : Int} {s : List Int} (h : 0 ≤ v) (h' : 0 ≤ v') : setR v st n s = setR v' st n s := by
  unfold setR
  rw [decide_eq_false (show ¬ v = -1 by omega), decide_eq_false (show ¬ v' = -1 by omega)]
theorem varR_ren (s : Nat) (vs : List Val) (b : Bool) (t : Term) (st : Bool) (n : Int) (m : Nat) : varR ((putL s vs vs.length).map Val.set) b (renT s vs.length t).var st n m = varR (vs.map Val.set) b t.var st n m := by
  by_cases h : 0 ≤ t.var ∧ t.var < vs.length
  · obtain ⟨h1, h2, h3, h4⟩ := renT_in (s := s) h
    have hg : ((putL s vs vs.length).map Val.set).getD ((t.var.toNat + s) % vs.length) false = (vs.map Val.set).getD t.var.toNat false := by
      have h5 := putL_get s vs _ (Nat.le_refl _) t.var.toNat h4
      simp only [List.getD_eq_getElem?_getD, List.getElem?_map, h5]
      rw [List.getElem?_eq_getElem h4]
      rfl
    unfold varR
    rw [h1, Int.toNat_natCast, hg, decide_eq_true (Int.natCast_nonneg _), decide_eq_true h.1, List.length_map, List.length_map, putL_len, decide_eq_true (by omega), decide_eq_true h.2]
  · have h1 : renT s vs.length t = t := by rw [renT, if_neg h]
    rw [h1]
    unfold varR
    rw [List.length_map, List.length_map, putL_len]
    by_cases h0 : 0 ≤ t.var
    · rw [decide_eq_false (show ¬ t.var < (vs.length : Int) by omega)]
      simp
    · rw [decide_eq_false h0]
      simp
theorem asks_ren (c : Int) (s : Nat) (vs : List Val) (t : Term) : asksB c ((putL s vs vs.length).map Val.set) (renT s vs.length t) = asksB c (vs.map Val.set) t := by
  by_cases h : 0 ≤ t.var ∧ t.var < vs.length
  · obtain ⟨h1, h2, h3, h4⟩ := renT_in (s := s) h
    have hp : 0 ≤ (renT s vs.length t).var := by rw [h1]; exact Int.natCast_nonneg _
    unfold asksB
    simp only [varR_ren, h2]
    have e1 : ∀ lo hi, numR (renT s vs.length t).var t.c.set t.c.n t.c.s.length lo hi = numR t.var t.c.set t.c.n t.c.s.length lo hi := fun lo hi => numR_var hp h.1
    have e2 : setR (renT s vs.length t).var t.c.set t.c.n t.c.s = setR t.var t.c.set t.c.n t.c.s := setR_var hp h.1
    simp only [e1, e2]
  · have h1 : renT s vs.length t = t := by rw [renT, if_neg h]
    have hv := fun b st n m => varR_ren s vs b t st n m
    rw [h1] at hv ⊢
    unfold asksB
    simp only [hv]
theorem headR_ren (f : Arg → Arg) (h1 : ∀ a, (f a).array = a.array) (h2 : ∀ a, (f a).l.length = a.l.length) : ∀ (args : List Arg) (ps : List ByteArray), headR (args.map f) ps = headR args ps
  | [], _ => rfl
  | _ :: _, [] => rfl
  | a :: r, p :: ps => by
    rw [List.map_cons, headR, headR, h1, h2, headR_ren f h1 h2 r ps]
theorem longR_ren (f : Arg → Arg) (h2 : ∀ a, (f a).l.length = a.l.length) : ∀ (args : List Arg), longR (args.map f) = longR args
  | [] => rfl
  | a :: r => by
    rw [List.map_cons, longR, longR, h2, longR_ren f h2 r]
theorem askR_ren (s : Nat) (vs : List Val) : ∀ (args : List Arg) (ps : List ByteArray), askR ((putL s vs vs.length).map Val.set) (args.map (renA s vs.length)) ps = askR (vs.map Val.set) args ps
  | [], _ => rfl
  | _ :: _, [] => rfl
  | a :: r, p :: ps => by
    rw [List.map_cons, askR, askR, askR_ren s vs r ps]
    have h : (renA s vs.length a).l.all (asksB (lastC p) ((putL s vs vs.length).map Val.set)) = a.l.all (asksB (lastC p) (vs.map Val.set)) := by
      rw [renA, List.all_map]
      congr 1
      funext t
      exact asks_ren _ s vs t
    rw [h]
theorem rightE_ren (name : ByteArray) (s : Nat) (vs : List Val) (args : List Arg) : rightE name (args.map (renA s vs.length)) ((putL s vs vs.length).map Val.set) = rightE name args (vs.map Val.set) := by
  unfold rightE
  rw [List.length_map, headR_ren (renA s vs.length) (fun _ => rfl) (fun a => by rw [renA, List.length_map]), longR_ren (renA s vs.length) (fun a => by rw [renA, List.length_map]), askR_ren]
theorem rightVars_ren (s : Nat) (vs : List Val) (args : List Arg) : rightVars (putL s vs vs.length) (varsL (args.map (renA s vs.length))) = rightVars vs (varsL args) := by
  rw [rightVars_all, rightVars_all, Bool.eq_iff_iff, List.all_eq_true, List.all_eq_true]
  -- a variable's value is right here where it is right there
  have key : ∀ t : Term, 0 ≤ t.var → 0 ≤ (renT s vs.length t).var ∧ rightValB ((putL s vs vs.length).getD (renT s vs.length t).var.toNat v0) = rightValB (vs.getD t.var.toNat v0) := by
    intro t h0
    by_cases h : t.var < vs.length
    · obtain ⟨h1, h2, h3, h4⟩ := renT_in (s := s) ⟨h0, h⟩
      rw [h1, Int.toNat_natCast, putL_getD h4]
      exact ⟨Int.natCast_nonneg _, rfl⟩
    · have h1 : renT s vs.length t = t := by rw [renT, if_neg (fun hh => h hh.2)]
      rw [h1]
      refine ⟨h0, ?_⟩
      rw [List.getD_eq_getElem?_getD, List.getD_eq_getElem?_getD, List.getElem?_eq_none (by rw [putL_len]; omega), List.getElem?_eq_none (by omega)]
  have back : ∀ t : Term, 0 ≤ (renT s vs.length t).var → 0 ≤ t.var := by
    intro t h
    by_cases h1 : 0 ≤ t.var ∧ t.var < vs.length
    · exact h1.1
    · rw [renT, if_neg h1] at h
      exact h
  constructor
  · intro h k hk
    obtain ⟨a, ha, t, ht, rfl, h0⟩ := vars_mem hk
    obtain ⟨h1, h2⟩ := key t h0
    have h3 := h (renT s vs.length t).var (mem_vars (a := renA s vs.length a) (List.mem_map_of_mem ha) (show renT s vs.length t ∈ a.l.map (renT s vs.length) from List.mem_map_of_mem ht) h1)
    rw [← h2]
    exact h3
  · intro h k hk
    obtain ⟨a', ha, t', ht, rfl, h0⟩ := vars_mem hk
    obtain ⟨a, ha2, rfl⟩ := List.mem_map.1 ha
    obtain ⟨t, ht2, rfl⟩ := List.mem_map.1 (show t' ∈ a.l.map (renT s vs.length) from ht)
    have h1 := back t h0
    rw [(key t h1).2]
    exact h t.var (mem_vars ha2 ht2 h1)
/-- ArithRenamed's law. -/
theorem arithL_ren (name : ByteArray) (s : Nat) (vs : List Val) (args : List Arg) : arithL name (args.map (renA s vs.length)) (putL s vs vs.length) = arithL name args vs := by
  unfold arithL HoldsL
  rw [rightE_ren, rightVars_ren, values_ren]
end Go.Proofs.YtkdedpofghlmoaaGreatDoor
set_option linter.unusedVariables false
set_option linter.unusedSimpArgs false
namespace Go.Proofs.YtkdedpofghlmoaaGreatDoor
open Go.RowKit Go.Proofs.YtkdedpofghlmoaaGreatDoorW.PrintWords
set_option maxRecDepth 100000 in
set_option maxHeartbeats 4000000 in
theorem law_ArithRenamed (name : ByteArray) (A : Option Addr) (c : Nat) (args : List Arg) (B : Option Addr) (d : Nat) (vs : List Val) (b : Int) (w : World) (hm : ML w) (ha : kArg.C w A args.length args) (hv : kVal.C w B vs.length vs) (hn : args.length ≤ 1048576) (hl : ∀ a ∈ args, a.l.length ≤ 1048576 ∧ ∀ t ∈ a.l, t.c.s.length ≤ 1048576)
    (hvn : vs.length ≤ 1048576) (hb : in64 b = true) : Calls Tryz.prog 14 #[.agg #[.string name, .slice A args.length c], .slice B vs.length d, .int .i64 b] w fun e w' => e = .returned (.bool true) ∧ Bel w w' := by
  obtain ⟨r, hr⟩ : ∃ r, arithL name args vs = r := ⟨_, rfl⟩
  have HR := Lib.hid hr
  have HML := Lib.hid hm
  have HA := Lib.hid ha
  have HV := Lib.hid hv
  have HL := Lib.hid hl
  have HB := Lib.hid hb
  clear ha hv hl hb hr hm
  have call1 : ∀ (W : World), Bel w W → Calls Tryz.prog 38 #[.agg #[.string name, .slice A args.length c], .slice B vs.length d] W fun e w' => e = .returned (.tuple #[.bool r.1, .int .i64 r.2]) ∧ Bel W w' := by
    intro W h
    rw [← HR.out]
    exact arith_HoldsG name args vs A c B d W (HML.out.bel h) (Kd.now HA.out h) (Kd.now HV.out h) (by omega)
  go_enter Tryz.func14, Tryz.ntmps14
  go_wp2_with fail
  refine (law_Renamed name A c args B d vs b _ (Kd.now HA.out inferInstance) (Kd.now HV.out inferInstance) hn HL.out hvn HB.out).mono ?_
  rintro e1 w1 ⟨Av, cv, Bv, dv, rfl, ha2, hv2, hB1⟩
  have call2 : ∀ (W : World), Bel w1 W → Calls Tryz.prog 38 #[.agg #[.string name, .slice Av args.length cv], .slice Bv vs.length dv] W fun e w' => e = .returned (.tuple #[.bool r.1, .int .i64 r.2]) ∧ Bel W w' := by
    intro W h
    rw [← HR.out, ← arithL_ren name (shiftN vs.length b) vs args]
    have h1 := arith_HoldsG name (args.map (renA (shiftN vs.length b) vs.length)) (putL (shiftN vs.length b) vs vs.length) Av cv Bv dv W (HML.out.bel (Bel.trans (inferInstance : Bel w (w.alloc (.cells #[.string name, .slice A args.length c] 24))) (hB1.trans h)))
      (by rw [List.length_map]; exact Kd.now ha2 h) (by rw [putL_len]; exact Kd.now hv2 h) (by rw [putL_len]; omega)
    rw [List.length_map, putL_len] at h1
    exact h1
  have C1 := Lib.hid call1
  have C2 := Lib.hid call2
  clear call1 call2 ha2 hv2
  go_upto_region 2 with fail
  obtain ⟨wm, hwm⟩ : ∃ wm, w1.alloc (.cells #[.string name, .slice Av args.length cv] 24) = wm := ⟨_, rfl⟩
  have B1m : Bel w1 wm := hwm ▸ inferInstance
  have k7 : wm.heap[w1.heap.size]? = some (.cells #[.string name, .slice Av args.length cv] 24 (0, 0)) := hwm ▸ heap_alloc_new _ _
  have k3 : wm.heap[w.heap.size]? = some (.cells #[.string name, .slice A args.length c] 24 (0, 0)) := ((hB1.trans B1m).out.block _ (by simp)).trans (heap_alloc_new w _)
  have Bm : Bel w wm := (Bel.trans (inferInstance : Bel w (w.alloc (.cells #[.string name, .slice A args.length c] 24))) (hB1.trans B1m))
  rw [hwm]
  have x0 : ∀ (V : World) [Bel wm V], V.cell? ⟨w.heap.size, 0, none⟩ = some (.string name) := fun V h => h.cell (row_cell k3 0)
  have x1 : ∀ (V : World) [Bel wm V], V.cell? ⟨w.heap.size, 1, none⟩ = some (.slice A args.length c) := fun V h => h.cell (row_cell k3 1)
  have y0 : ∀ (V : World) [Bel wm V], V.cell? ⟨w1.heap.size, 0, none⟩ = some (.string name) := fun V h => h.cell (row_cell k7 0)
  have y1 : ∀ (V : World) [Bel wm V], V.cell? ⟨w1.heap.size, 1, none⟩ = some (.slice Av args.length cv) := fun V h => h.cell (row_cell k7 1)
  have HBM := Lib.hid Bm
  have HB1M := Lib.hid B1m
  clear hwm B1m k7 k3 Bm hB1
  go_wp2_with fail
  refine (C1.out _ (HBM.out.trans inferInstance)).mono ?_
  rintro e2 w2 ⟨rfl, hb2⟩
  have q2 : Bel wm w2 := Bel.trans inferInstance hb2
  clear hb2
  go_wp2_with fail
  refine (C2.out _ (HB1M.out.trans inferInstance)).mono ?_
  rintro e3 w3 ⟨rfl, hb3⟩
  have q3 : Bel wm w3 := Bel.trans inferInstance hb3
  clear hb3 q2
  go_wp2_with fail
  refine (law_known _ (HML.out.bel (HBM.out.trans inferInstance))).mono ?_
  rintro e4 w4 ⟨rfl, hb4⟩
  go_wp2
  go_ret
  exact ⟨rfl, HBM.out.trans (Bel.trans inferInstance hb4)⟩
end Go.Proofs.YtkdedpofghlmoaaGreatDoor
