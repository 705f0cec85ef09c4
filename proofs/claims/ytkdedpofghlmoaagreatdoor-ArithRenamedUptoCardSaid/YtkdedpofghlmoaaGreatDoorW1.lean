/- The walk of the closure of Work.left: a variable's value is laid and the constraint asked. No statement is proved here. -/
import Derived.Test.YtkdedpofghlmoaaGreatDoorP3
import Derived.Test.YtkdedpofghlmoaaGreatDoorI3
import Derived.LoopN
set_option linter.unusedVariables false
set_option linter.unusedSimpArgs false
namespace Go.Proofs.YtkdedpofghlmoaaGreatDoor
open Go.RowKit Go.Proofs.YtkdedpofghlmoaaGreatDoorW.PrintWords
set_option maxHeartbeats 1000000 in
theorem insert_one (A : Option Addr) (c : Nat) (f : Value) (w : World) :
    Calls Tryz.prog 313 #[.slice A 1 c, .int .i64 0, .int .i64 1, f] w fun e w' => e = .returned (.tuple #[]) ∧ w' = w := by
  go_enter Tryz.func313, Tryz.ntmps313
  go_wp2_with fail
  refine wp_loop_once ?_
  go_wp2
  go_returns
  exact ⟨rfl, rfl⟩
set_option maxHeartbeats 1000000 in
theorem pdq_one (A : Option Addr) (c : Nat) (k : Int) (f : Value) (w : World) :
    Calls Tryz.prog 288 #[.slice A 1 c, .int .i64 0, .int .i64 1, .int .i64 k, f] w fun e w' => e = .returned (.tuple #[]) ∧ w' = w := by
  go_enter Tryz.func288, Tryz.ntmps288
  go_wp2_with fail
  refine wp_loop_once ?_
  go_wp2_with (go_at_call 313; refine (insert_one _ _ _ _).mono ?_; rintro e w1 ⟨rfl, rfl⟩)
  go_returns
  exact ⟨rfl, rfl⟩
theorem bits_Len1 (w : World) : Calls Tryz.prog 229 #[.int .u64 1] w fun e w' => e = .returned (.int .i64 1) ∧ w' = w := by
  go_enter Tryz.func229, Tryz.ntmps229
  go_wp2_with (go_at_call 282; refine (bits_Len64 (x := 1) (k := 1) (by decide) (by decide) (by decide) _).mono ?_; rintro e w1 ⟨rfl, rfl⟩)
  go_ret
  exact ⟨rfl, rfl⟩
set_option maxHeartbeats 1000000 in
theorem sort_one (A : Option Addr) (c : Nat) (f : Value) (w : World) :
    Calls Tryz.prog 248 #[.slice A 1 c, f] w fun e w' => e = .returned (.tuple #[]) ∧ Bel w w' := by
  go_enter Tryz.func248, Tryz.ntmps248
  go_wp2_with fail
  refine (bits_Len1 _).mono ?_
  rintro e w1 ⟨rfl, rfl⟩
  go_wp2_with (go_at_call 288; refine (pdq_one _ _ _ _ _).mono ?_; rintro e w1 ⟨rfl, rfl⟩)
  go_returns
  exact ⟨rfl, inferInstance⟩
theorem Acc.fresh {α : Type} {d : Kd α} {e : Nat} {w0 W : World} {v : Value} {xs : List α} (h : Acc d e w0 W v xs) (hx : xs ≠ []) : ∃ g c, v = .slice (some ⟨g, 0, none⟩) xs.length c ∧ w0.heap.size ≤ g := by
  obtain ⟨inner, ho⟩ := Kd.R_own h.own
  rcases ho.2 with ⟨_, h0⟩ | ⟨g, cap, cur, rfl, hg, _⟩
  · exact absurd (List.eq_nil_of_length_eq_zero h0) hx
  · exact ⟨g, cap, rfl, hg⟩
theorem C_move {α : Type} {d : Kd α} {W W' : World} {g n : Nat} {xs : List α} (h : d.C W (some ⟨g, 0, none⟩) n xs) (hK : ∀ x c, d.K W x c → d.K W' x c) (he : W'.heap[g]? = W.heap[g]?) : d.C W' (some ⟨g, 0, none⟩) n xs :=
  ⟨h.1, h.2.1, fun hn => by
    obtain ⟨ad, e, hc⟩ := h.2.2 hn
    cases e
    refine ⟨_, rfl, fun j p hp => ?_⟩
    obtain ⟨c, h1, h2, h3⟩ := hc j p hp
    refine ⟨c, h1, hK _ _ h2, fun i u hu => (World.cell?_of_block (w := W) ?_).trans (h3 i u hu)⟩
    rw [show ((⟨g, 0, none⟩ : Addr).add (j * d.sz + i)).block = g by unfold Addr.add; split <;> rfl]
    exact he⟩
theorem clip_one (ad : Addr) (c : Nat) (w : World) (hc : 1 ≤ c) :
    Calls Tryz.prog 251 #[.slice (some ad) 1 c] w fun e w' => e = .returned (.slice (some ad) 1 1) ∧ w' = w := by
  go_enter Tryz.func251, Tryz.ntmps251
  go_wp2
  go_ret
  exact ⟨rfl, rfl⟩
theorem in_yes {v : Int} (h : Hid (inB v = true)) (w : World) : Calls Tryz.prog 247 #[.int .i64 v] w fun e w' => e = .returned (.bool true) ∧ w' = w := by
  have h1 : -1000000 ≤ v ∧ v ≤ 1000000 := by have := h.out; simpa [inB] using this
  obtain ⟨h1, h2⟩ := h1
  go_enter Tryz.func247, Tryz.ntmps247
  go_wp2
  go_ret
  exact ⟨ret_b (by simp [h1, h2]), rfl⟩
set_option maxRecDepth 100000 in
set_option maxHeartbeats 2000000 in
theorem norm_one (v : Int) (hv : inB v = true) (A : Option Addr) (c : Nat) (w : World) (hr : kRng.C w A 1 [⟨v, v⟩]) :
    Calls Tryz.prog 185 #[.slice A 1 c] w fun e w' => ∃ g c', e = .returned (.tuple #[.slice (some ⟨g, 0, none⟩) 1 c', .int .i64 0]) ∧ w.heap.size ≤ g ∧ 1 ≤ c' ∧ kRng.C w' (some ⟨g, 0, none⟩) 1 [⟨v, v⟩] ∧ Bel w w' := by
  have HV := Lib.hid hv
  obtain ⟨ad, rfl, c0, c1⟩ := Rng.nth hr (k := 0) (x := ⟨v, v⟩) rfl
  change w.cell? ad = some (.int .i64 v) at c0
  change w.cell? ⟨ad.block, ad.off + 1, none⟩ = some (.int .i64 v) at c1
  have hvv : ¬ v > v := by omega
  clear hv hr
  go_enter Tryz.func185, Tryz.ntmps185
  go_wp2_with fail
  refine wp_loop_rounds 2 ?_
  rw [rounds_succ]
  go_wp2_with (first | (go_at_call 247; refine (in_yes HV _).mono ?_; rintro e w1 ⟨rfl, rfl⟩) | (at_builtin; refine AccR.app (w0 := w) (Wr := w.alloc (.cells #[.int .i64 v, .int .i64 v] 101)) (Acc.nilB inferInstance) rfl rfl rfl rfl (by simp) inferInstance (by simp) ?_; intro v1 w1 HO1 hk1; clear hk1))
  simp only [List.nil_append] at HO1
  obtain ⟨A1, c1', rfl, hl1, hC1⟩ := HO1.reads
  obtain ⟨sd, rfl, s0, s1⟩ := Rng.nth hC1 (k := 0) (x := ⟨v, v⟩) rfl
  simp only [List.length_cons, List.length_nil, Nat.zero_add] at hl1
  change w1.cell? sd = some (.int .i64 v) at s0
  change w1.cell? ⟨sd.block, sd.off + 1, none⟩ = some (.int .i64 v) at s1
  have HB1 := Lib.hid HO1.bel
  clear hC1 HO1 c0 c1
  rw [rounds_succ]
  go_wp2_with fail
  refine (sort_one _ _ _ _).mono ?_
  rintro e w2 ⟨rfl, HB2⟩
  replace s0 := HB2.cell s0
  replace s1 := HB2.cell s1
  have HB12 := Lib.hid (HB1.out.trans HB2)
  clear HB2
  go_wp2_with fail
  refine wp_loop_rounds 2 ?_
  rw [rounds_succ]
  go_wp2_with fail
  go_quiet (fail)
  go_wp2_with (at_builtin; refine AccR.app (w0 := w) (Wr := w2) (Acc.nilB HB12.out) rfl rfl rfl rfl (by simp) inferInstance (by simp) ?_; intro v3 w3 HO3 hk3; clear hk3)
  simp only [List.nil_append] at HO3
  obtain ⟨g3, c3, rfl, hg3⟩ := HO3.fresh (by simp)
  obtain ⟨_, hl3, hC3⟩ := HO3.C
  simp only [List.length_cons, List.length_nil, Nat.zero_add] at hl3 hC3
  have HG3 := Lib.hid hg3
  have HC3 := Lib.hid hC3
  have HB3 := Lib.hid HO3.bel
  clear hC3 HO3 s0 s1
  rw [rounds_succ]
  go_wp2_with (go_at_call 251; refine (clip_one _ _ _ hl3).mono ?_; rintro e w4 ⟨rfl, rfl⟩)
  go_ret2
  exact ⟨_, _, rfl, HG3.out, Nat.le_refl _, HC3.out, HB3.out⟩
end Go.Proofs.YtkdedpofghlmoaaGreatDoor
set_option linter.unusedVariables false
set_option linter.unusedSimpArgs false
namespace Go.Proofs.YtkdedpofghlmoaaGreatDoor
open Go.RowKit Go.Proofs.YtkdedpofghlmoaaGreatDoorW.PrintWords
set_option maxRecDepth 100000 in
set_option maxHeartbeats 2000000 in
theorem of_one (v : Int) (hv : inB v = true) (A : Option Addr) (c : Nat) (w : World) (hr : (Kd.int .i64).C w A 1 [v]) :
    Calls Tryz.prog 114 #[.slice A 1 c] w fun e w' => ∃ g c', e = .returned (.tuple #[.slice (some ⟨g, 0, none⟩) 1 c', .int .i64 0]) ∧ w.heap.size ≤ g ∧ 1 ≤ c' ∧ kRng.C w' (some ⟨g, 0, none⟩) 1 [⟨v, v⟩] ∧ Bel w w' := by
  have HV := Lib.hid hv
  obtain ⟨ad, rfl, c0⟩ := Int.nth hr (k := 0) (x := v) rfl
  change w.cell? ad = some (.int .i64 v) at c0
  clear hv hr
  go_enter Tryz.func114, Tryz.ntmps114
  go_wp2_with fail
  refine wp_loop_rounds 2 ?_
  rw [rounds_succ]
  go_wp2_with (at_builtin; refine AccR.app (w0 := w) (Wr := w) (Acc.nilB inferInstance) rfl rfl rfl rfl (by simp) inferInstance (by simp) ?_; intro v1 w1 HO1 hk1; clear hk1)
  simp only [List.nil_append] at HO1
  obtain ⟨A1, c1', rfl, hl1, hC1⟩ := HO1.reads
  simp only [List.length_cons, List.length_nil, Nat.zero_add] at hl1
  have HC1 := Lib.hid hC1
  have HB1 := Lib.hid HO1.bel
  clear hC1 HO1 c0
  rw [rounds_succ]
  go_wp2_with fail
  refine (norm_one v HV.out _ _ _ HC1.out).mono ?_
  rintro e w2 ⟨g2, c2, rfl, hg2, hl2, hC2, HB2⟩
  have HC2 := Lib.hid hC2
  have HG2 := Lib.hid (Nat.le_trans HB1.out.out.size hg2)
  clear hC2 hg2
  go_wp2
  go_ret2
  exact ⟨_, _, rfl, HG2.out, hl2, HC2.out, HB1.out.trans HB2⟩
theorem blk_of_C {W : World} {g : Nat} {r : Rng} (h : kRng.C W (some ⟨g, 0, none⟩) 1 [r]) : g < W.heap.size := by
  obtain ⟨ad, e, c0, _⟩ := Rng.nth h (k := 0) (x := r) rfl
  cases e
  exact World.block_lt_of_cell? W ⟨g, 0, none⟩ c0
theorem hull_ret {w W : World} {tm : Array Value} {v : Value} (h : W.heap[w.heap.size]? = some (.cells (domC (.slice none 0 0)) 49 (0, 0))) (hB : Bel w W) {R : Ending → World → Prop} (ht : tm.getD 4 undef = .pointer (some ⟨w.heap.size, 0, none⟩))
    (k : ∀ w', Bel w w' → (∀ d : Kd Rng, True → ∀ g : Nat, g < W.heap.size → g ≠ w.heap.size → w'.heap[g]? = W.heap[g]?) → R (.returned (.agg (domC v))) w') :
    bodyPost Tryz.prog Tryz.f176 R Exit.ret { tmps := tm, defers := [] }
      ((((((W.setCell ⟨w.heap.size, 0, none⟩ (.bool false)).setCell ⟨w.heap.size, 1, none⟩ v).setCell ⟨w.heap.size, 2, none⟩ (.slice none 0 0)).setCell ⟨w.heap.size, 3, none⟩ (.slice none 0 0)).setCell ⟨w.heap.size, 4, none⟩ (.int .i64 0)).setCell ⟨w.heap.size, 5, none⟩ (.int .i64 0)) := by
  refine bodyPost_ret (v := .agg (domC v)) (results_cell_row (fn := Tryz.f176) (p := 4) (ty := 49) rfl _ _ _ 49 _ (0, 0) _ ht (set6 h) Tryz.underlying49 rfl size49) rfl (k _ ?_ ?_)
  · exact ⟨(((((hB.out.setCell (p := ⟨w.heap.size, 0, none⟩) (Nat.le_refl _) _).setCell (p := ⟨w.heap.size, 1, none⟩) (Nat.le_refl _) _).setCell (p := ⟨w.heap.size, 2, none⟩) (Nat.le_refl _) _).setCell (p := ⟨w.heap.size, 3, none⟩) (Nat.le_refl _) _).setCell (p := ⟨w.heap.size, 4, none⟩) (Nat.le_refl _) _).setCell (p := ⟨w.heap.size, 5, none⟩) (Nat.le_refl _) _⟩
  · intro _ _ g _ hne
    rw [heap_setCell_other _ _ _ _ hne, heap_setCell_other _ _ _ _ hne, heap_setCell_other _ _ _ _ hne, heap_setCell_other _ _ _ _ hne, heap_setCell_other _ _ _ _ hne, heap_setCell_other _ _ _ _ hne]
set_option maxRecDepth 100000 in
set_option maxHeartbeats 2000000 in
theorem hull_one (x : Val) (hv : inB x.n = true) (A : Option Addr) (c : Nat) (w : World) (hr : kVal.C w A 1 [x]) :
    Calls Tryz.prog 176 #[.bool false, .slice A 1 c] w fun e w' => ∃ g c', e = .returned (.agg #[.bool false, .slice (some ⟨g, 0, none⟩) 1 c', .slice none 0 0, .slice none 0 0, .int .i64 0, .int .i64 0]) ∧ w.heap.size ≤ g ∧ 1 ≤ c' ∧ kRng.C w' (some ⟨g, 0, none⟩) 1 [⟨x.n, x.n⟩] ∧ Bel w w' := by
  have HV := Lib.hid hv
  obtain ⟨ad, A2, c2, rfl, v0, v1, v2, hl2, hC2⟩ := Val.nth hr (k := 0) (x := x) rfl
  change w.cell? ad = some (.bool x.set) at v0
  change w.cell? ⟨ad.block, ad.off + 1, none⟩ = some (.int .i64 x.n) at v1
  change w.cell? ⟨ad.block, ad.off + 2, none⟩ = some (.slice A2 x.s.length c2) at v2
  replace v0 : ∀ (W : World) [Bel w W], W.cell? ad = some (.bool x.set) := fun W h => h.cell v0
  replace v1 : ∀ (W : World) [Bel w W], W.cell? ⟨ad.block, ad.off + 1, none⟩ = some (.int .i64 x.n) := fun W h => h.cell v1
  replace v2 : ∀ (W : World) [Bel w W], W.cell? ⟨ad.block, ad.off + 2, none⟩ = some (.slice A2 x.s.length c2) := fun W h => h.cell v2
  clear hv hr hC2
  obtain ⟨wz, hwz⟩ : ∃ wz, (w.alloc (.cells (domC (.slice none 0 0)) 49)).alloc (.cells #[.bool x.set, .int .i64 x.n, .slice A2 x.s.length c2] 53) = wz := ⟨_, rfl⟩
  have zb : Bel w wz := hwz ▸ inferInstance
  have z0 : wz.heap[w.heap.size]? = some (.cells (domC (.slice none 0 0)) 49 (0, 0)) := hwz ▸ (heap_alloc_old _ _ (by simp)).trans (heap_alloc_new _ _)
  have HWZ := Lib.hid hwz
  have Z0 := Lib.hid z0
  clear hwz z0
  go_enter Tryz.func176, Tryz.ntmps176
  go_wp2_with fail
  refine wp_loop_rounds 2 ?_
  rw [rounds_succ]
  go_wp2_with (at_builtin; rw [show (w.alloc (.cells (domC (.slice none 0 0)) 49)).alloc (.cells #[.bool x.set, .int .i64 x.n, .slice A2 x.s.length c2] 53) = wz from HWZ.out]; refine AccI.app (w0 := wz) (Wr := wz) Acc.nil rfl rfl rfl rfl (by rw [← HWZ.out]; simp) inferInstance (by simp) ?_; intro y1 w1 HO1 hk1; clear hk1)
  simp only [List.nil_append] at HO1
  obtain ⟨A1, c1', rfl, hl1, hC1⟩ := HO1.reads
  simp only [List.length_cons, List.length_nil, Nat.zero_add] at hl1
  have HC1 := Lib.hid hC1
  have HB1 := Lib.hid HO1.bel
  clear hC1 HO1
  rw [rounds_succ]
  go_wp2_with fail
  refine (of_one x.n HV.out _ _ _ HC1.out).mono ?_
  rintro e w2 ⟨g3, c3, rfl, hg3, hl3, hC3, HB2⟩
  have HG := Lib.hid (show w.heap.size < g3 from Nat.lt_of_lt_of_le (blk_lt ((HB1.out.out.block _ (blk_lt Z0.out)).trans Z0.out)) hg3)
  clear hg3
  have HC3 := Lib.hid hC3
  have HBz := Lib.hid (HB1.out.trans HB2)
  have y1 := (HBz.out.out.block _ (blk_lt Z0.out)).trans Z0.out
  have n0 : w2.cell? ⟨w.heap.size, 0, none⟩ = some (.bool false) := row_cell y1 0
  have o0 := frozen_of_row w2 w.heap.size 0 _ _ y1
  have n1 : w2.cell? ⟨w.heap.size, 1, none⟩ = some (.slice none 0 0) := row_cell y1 1
  have o1 := frozen_of_row w2 w.heap.size 1 _ _ y1
  have n2 : w2.cell? ⟨w.heap.size, 2, none⟩ = some (.slice none 0 0) := row_cell y1 2
  have o2 := frozen_of_row w2 w.heap.size 2 _ _ y1
  have n3 : w2.cell? ⟨w.heap.size, 3, none⟩ = some (.slice none 0 0) := row_cell y1 3
  have o3 := frozen_of_row w2 w.heap.size 3 _ _ y1
  have n4 : w2.cell? ⟨w.heap.size, 4, none⟩ = some (.int .i64 0) := row_cell y1 4
  have o4 := frozen_of_row w2 w.heap.size 4 _ _ y1
  have n5 : w2.cell? ⟨w.heap.size, 5, none⟩ = some (.int .i64 0) := row_cell y1 5
  have o5 := frozen_of_row w2 w.heap.size 5 _ _ y1
  have HY := Lib.hid y1
  have HBw := Lib.hid (zb.trans HBz.out)
  clear hC3 y1 v0 v1 v2 HB2
  go_wp2
  refine hull_ret HY.out HBw.out rfl ?_
  intro w' hB' hk
  exact ⟨_, _, rfl, Nat.le_of_lt HG.out, hl3, C_move HC3.out (fun _ _ h => h) (hk kRng trivial g3 (blk_of_C HC3.out) (by have := HG.out; omega)), hB'⟩
end Go.Proofs.YtkdedpofghlmoaaGreatDoor
set_option linter.unusedVariables false
set_option linter.unusedSimpArgs false
namespace Go.Proofs.YtkdedpofghlmoaaGreatDoor
open Go.RowKit Go.Proofs.YtkdedpofghlmoaaGreatDoorW.PrintWords
theorem Acc.app2 {α : Type} {d : Kd α} {e : Nat} {w0 W : World} {v : Value} {xs : List α} {bytes t n : Nat} {z : Value} {p : α} {cs : List Value} {Wr : World} (HO : Acc d e w0 Wr v xs) {ops : Array Oper} {rest : List Oper} {o : Oper} {a : Act} {Q : Exit → Act → World → Prop} {s x : Operand}
    (ht : Tryz.prog.underlying t = some (.slice e)) (hinfo : (Tryz.prog.info? e).map (fun i => (i.zero, i.size, i.bytes)) = some (some z, d.sz, bytes)) (hz : z.cells.size = d.sz) (hs0 : 0 < d.sz) (hb0 : 0 < bytes)
    (hgd : o.guard = none) (ho : o.op = .call { callee := .builtin .append, args := #[s, x], argTypes := #[t, t] }) (hs : a.eval s = v) (hx : a.eval x = .slice (some ⟨n, 0, none⟩) 1 1) (hn : W.heap.size = n) (hB : Bel Wr W)
    (hp : d.M W w0.heap.size (fun k => some k ≠ v.ownBlock) p cs) (hl : (xs.length + 1) * bytes ≤ 140737488355328)
    (h : ∀ v1 w1, Acc d e w0 w1 v1 (xs ++ [p]) → W.grownBy w1 v.ownBlock → (v1.ownBlock = v.ownBlock ∨ ∃ b, v1.ownBlock = some b ∧ W.heap.size ≤ b) → wpList Tryz.prog ops Q rest (a.put o.dst v1) w1) :
    wpList Tryz.prog ops Q (o :: rest) a (W.alloc (.cells cs.toArray e)) :=
  Kd.R_append d w0.heap.size hgd s x t e z bytes ho ht hinfo hz hs0 hb0 v xs p cs (fun _ => True) (fun k => some k ≠ v.ownBlock) hs (hn ▸ hx) hp (fun _ hk => ⟨trivial, hk⟩) (fun _ _ => trivial)
    (HO.later hB).own (HO.later hB).bel.out (HO.later hB).bel.out.size hl (fun v1 w1 ho1 hb1 hg hat => h v1 w1 ⟨ho1, ⟨hb1⟩⟩ hg hat)
theorem AccV.move {u w0 W W' : World} {v : Value} {xs : List Val} (h : AccV u w0 W v xs) (hb : Bel w0 W') (hm : ∀ k, v.ownBlock = some k → W'.heap[k]? = W.heap[k]?) : AccV u w0 W' v xs := by
  obtain ⟨inner, ho, hr⟩ := h.own.2
  exact ⟨⟨fun _ _ => trivial, inner, own_move ho hm, hr.imp_ (fun _ _ hp => hp)⟩, hb⟩
abbrev valC (x : Int) : Array Value := #[.bool false, .int .i64 x, .slice none 0 0]
/-- The variables that the closure has captured, and the constraint's memory. -/
structure LeftAt (u W : World) (b4 b5 b6 b7 b10 g gv mf : Nat) (cv : Nat) (vout : Value) (out : List Val) (y : Int) : Prop where
  bel : Bel u W
  x4 : Boxed W b4 124 (.pointer (some ⟨g, 0, none⟩))
  x5 : Boxed W b5 3 (.int .i64 0)
  x6 : Boxed W b6 25 (.slice (some ⟨gv, 0, none⟩) 1 cv)
  x7 : Boxed W b7 112 (.func (.func mf) #[] #[])
  x10 : Boxed W b10 25 vout
  row : W.heap[gv]? = some (.cells (valC y) 53 (0, 0))
  out : AccV u u W vout out
  lg : u.heap.size ≤ gv
  l10 : u.heap.size ≤ b10
  nov : vout.ownBlock ≠ some gv
  n610 : b6 ≠ b10
def keepL (b : Bool) (e x : Int) : List Val := if b = true ∧ e = 0 then [⟨false, x, []⟩] else []
def TryPost (u W : World) (b4 b5 b6 b7 b10 g gv mf cv : Nat) (vout : Value) (out : List Val) (x e : Int) (e' : Ending) (W' : World) : Prop :=
  e' = .returned (.int .i64 e) ∧ ∃ vout', LeftAt u W' b4 b5 b6 b7 b10 g gv mf cv vout' out x ∧ (∀ k, k < W.heap.size → k ≠ gv → k ≠ b10 → some k ≠ vout.ownBlock → W'.heap[k]? = W.heap[k]?) ∧ W.heap.size ≤ W'.heap.size
theorem try_end {u W w2 : World} {b4 b5 b6 b7 b10 g gv mf cv : Nat} {vout v1 : Value} {out out' : List Val} {x : Int} (hL : LeftAt u W b4 b5 b6 b7 b10 g gv mf cv vout out x) {z : Val} (hO : AccV u u w2 v1 (out ++ [z])) (hg : W.grownBy w2 vout.ownBlock)
    (hat : v1.ownBlock = vout.ownBlock ∨ ∃ b, v1.ownBlock = some b ∧ W.heap.size ≤ b) (h10 : Boxed w2 b10 25 vout) (hnb : vout.ownBlock ≠ some b10) (ho : out' = out ++ [z]) :
    LeftAt u (w2.setCell ⟨b10, 0, none⟩ v1) b4 b5 b6 b7 b10 g gv mf cv v1 out' x := by
  subst ho
  have ty : ∀ k t (cs : Array Value), W.heap[k]? = some (.cells cs t (0, 0)) → t ≠ 53 → some k ≠ vout.ownBlock := by
    intro k t cs h hne e
    obtain ⟨inner, hw⟩ := Kd.R_own hL.out.own
    obtain ⟨cells, hc⟩ := own_typed hw k e.symm
    exact absurd (h.symm.trans hc) (by simp; exact fun _ => hne)
  have k2 : ∀ k t (cs : Array Value), W.heap[k]? = some (.cells cs t (0, 0)) → some k ≠ vout.ownBlock → k ≠ b10 → (w2.setCell ⟨b10, 0, none⟩ v1).heap[k]? = some (.cells cs t (0, 0)) := by
    intro k t cs h h1 h2
    rw [heap_setCell_other _ _ _ _ h2, hg.block k (blk_lt h) h1]
    exact h
  have n10 : ∀ k t (cs : Array Value), W.heap[k]? = some (.cells cs t (0, 0)) → t ≠ 25 → k ≠ b10 := by
    intro k t cs h hne e
    subst e
    exact absurd (h.symm.trans (show W.heap[k]? = some (.cells #[vout] 25 (0, 0)) from hL.x10)) (by simp; exact fun _ => hne)
  refine ⟨⟨hO.bel.out.setCell (p := ⟨b10, 0, none⟩) hL.l10 _⟩, k2 _ _ _ hL.x4 (ty _ _ _ hL.x4 (by decide)) (n10 _ _ _ hL.x4 (by decide)), k2 _ _ _ hL.x5 (ty _ _ _ hL.x5 (by decide)) (n10 _ _ _ hL.x5 (by decide)), k2 _ _ _ hL.x6 (ty _ _ _ hL.x6 (by decide)) hL.n610, k2 _ _ _ hL.x7 (ty _ _ _ hL.x7 (by decide)) (n10 _ _ _ hL.x7 (by decide)), h10.set v1, k2 _ _ _ hL.row (fun e => hL.nov e.symm) (n10 _ _ _ hL.row (by decide)), ?_, hL.lg, hL.l10, ?_, hL.n610⟩
  · exact Acc.set hO (show w2.heap[b10]? = some (.cells #[vout] 25 (0, 0)) from h10) (by intro q hq; simp [kValO, Kd.iso, Kd.pair, kOld, Kd.bool, Kd.int, Kd.scalar] at hq; omega) hL.l10 0 v1
  · rcases hat with e | ⟨b, e, hb⟩
    · rw [e]; exact hL.nov
    · rw [e]
      intro h
      cases h
      have := blk_lt hL.row
      omega
set_option maxRecDepth 100000 in
set_option maxHeartbeats 2000000 in
theorem try1 {u : World} {n : ByteArray} {A : Option Addr} {c : Nat} {D : Value} {ch fl : Bool} {args : List Arg} {mf g : Nat} {x y : Int} {b : Bool} {e : Int} (HM : MeansIs mf n (valuesL [⟨false, x, []⟩] args) b e) (hml : ML u) (ha : kArg.C u A args.length args) (hal : ∀ a ∈ args, a.l.length ≤ 1000) (han : args.length ≤ 1000)
    (htr : truthsL n = []) (hf : (findR n).form.size < 4294967281) (hp : ∀ p ∈ partsL (findR n).form, p.size ≤ 1000) (hw : u.heap[g]? = some (.cells (workC n (.slice A args.length c) D ch fl) 126 (0, 0)))
    {b4 b5 b6 b7 b10 gv cv : Nat} {vout : Value} {out : List Val} (W : World) (hS : LeftAt u W b4 b5 b6 b7 b10 g gv mf cv vout out y) (hlen : out.length ≤ 1000000) :
    Calls Tryz.prog 242 #[.agg #[.bool false, .int .i64 x, .slice none 0 0], .pointer (some ⟨b6, 0, none⟩), .pointer (some ⟨b5, 0, none⟩), .pointer (some ⟨b4, 0, none⟩), .pointer (some ⟨b7, 0, none⟩), .pointer (some ⟨b10, 0, none⟩)] W
      (TryPost u W b4 b5 b6 b7 b10 g gv mf cv vout (out ++ keepL b e x) x e) := by
  have hz : ∀ k (o : Obj), W.heap[k]? = some o → (W.alloc (.cells (valC x) 53)).heap[k]? = some o := fun k o h => (heap_alloc_old _ _ (blk_lt h)).trans h
  have c6 := (row_cell (hz _ _ hS.x6) 0).trans (show _ = some (Value.slice (some ⟨gv, 0, none⟩) 1 cv) from rfl)
  have c5 := (row_cell (hz _ _ hS.x5) 0).trans (show _ = some (Value.int .i64 0) from rfl)
  have r0 := (row_cell (hz _ _ hS.row) 0).trans (show _ = some (Value.bool false) from rfl)
  have r1 := (row_cell (hz _ _ hS.row) 1).trans (show _ = some (Value.int .i64 y) from rfl)
  have r2 := (row_cell (hz _ _ hS.row) 2).trans (show _ = some (Value.slice none 0 0) from rfl)
  have f0 := frozen_of_row _ gv 0 _ _ (hz _ _ hS.row)
  have f1 := frozen_of_row _ gv 1 _ _ (hz _ _ hS.row)
  have f2 := frozen_of_row _ gv 2 _ _ (hz _ _ hS.row)
  have HS := Lib.hid hS
  have HZ := Lib.hid hz
  clear hz hS
  go_enter Tryz.func242, Tryz.ntmps242
  go_upto_region 2 with fail
  obtain ⟨Wb, hWb⟩ : ∃ Wb, (((W.alloc (.cells (valC x) 53)).setCell ⟨gv, 0, none⟩ (.bool false)).setCell ⟨gv, 1, none⟩ (.int .i64 x)).setCell ⟨gv, 2, none⟩ (.slice none 0 0) = Wb := ⟨_, rfl⟩
  have hrow : Wb.heap[gv]? = some (.cells (valC x) 53 (0, 0)) := hWb ▸ set3 (HZ.out _ _ HS.out.row)
  have hoth : ∀ k (o : Obj), W.heap[k]? = some o → k ≠ gv → Wb.heap[k]? = some o := by
    intro k o hk hne
    rw [← hWb, heap_setCell_other _ _ _ _ hne, heap_setCell_other _ _ _ _ hne, heap_setCell_other _ _ _ _ hne]
    exact HZ.out k o hk
  have hbel : Bel u Wb := by
    rw [← hWb]
    exact ⟨(((HS.out.bel.out.alloc HS.out.bel.out.size _).setCell (p := ⟨gv, 0, none⟩) HS.out.lg _).setCell (p := ⟨gv, 1, none⟩) HS.out.lg _).setCell (p := ⟨gv, 2, none⟩) HS.out.lg _⟩
  have hbox : Wb.heap[W.heap.size]? = some (.cells (valC x) 53 (0, 0)) := by
    have hne : W.heap.size ≠ gv := by have := blk_lt HS.out.row; omega
    rw [← hWb, heap_setCell_other _ _ _ _ hne, heap_setCell_other _ _ _ _ hne, heap_setCell_other _ _ _ _ hne]
    exact heap_alloc_new _ _
  have hsz : W.heap.size + 1 = Wb.heap.size := by rw [← hWb]; simp [World.setCell]
  rw [hWb]
  have ne4 : b4 ≠ gv := fun e => by have h1 := HS.out.x4; have h2 := HS.out.row; rw [← e] at h2; exact absurd (h1.symm.trans h2) (by simp)
  have ne5 : b5 ≠ gv := fun e => by have h1 := HS.out.x5; have h2 := HS.out.row; rw [← e] at h2; exact absurd (h1.symm.trans h2) (by simp)
  have ne6 : b6 ≠ gv := fun e => by have h1 := HS.out.x6; have h2 := HS.out.row; rw [← e] at h2; exact absurd (h1.symm.trans h2) (by simp)
  have ne7 : b7 ≠ gv := fun e => by have h1 := HS.out.x7; have h2 := HS.out.row; rw [← e] at h2; exact absurd (h1.symm.trans h2) (by simp)
  have ne10 : b10 ≠ gv := fun e => by have h1 := HS.out.x10; have h2 := HS.out.row; rw [← e] at h2; exact absurd (h1.symm.trans h2) (by simp)
  have y4 := hoth _ _ HS.out.x4 ne4
  have y5 := hoth _ _ HS.out.x5 ne5
  have y6 := hoth _ _ HS.out.x6 ne6
  have y7 := hoth _ _ HS.out.x7 ne7
  have y10 := hoth _ _ HS.out.x10 ne10
  have yw := (hbel.out.block _ (blk_lt hw)).trans hw
  have q4 := (row_cell y4 0).trans (show _ = some (Value.pointer (some ⟨g, 0, none⟩)) from rfl)
  have q6 := (row_cell y6 0).trans (show _ = some (Value.slice (some ⟨gv, 0, none⟩) 1 cv) from rfl)
  have q7 := (row_cell y7 0).trans (show _ = some (Value.func (.func mf) #[] #[]) from rfl)
  have w0 := (row_cell yw 0).trans (show _ = some (Value.string n) from rfl)
  have w1 := (row_cell yw 1).trans (show _ = some (Value.slice A args.length c) from rfl)
  have HML := Lib.hid (hml.bel hbel)
  have HA := Lib.hid (Kd.now ha hbel)
  have HV := Lib.hid (show kVal.C Wb (some ⟨gv, 0, none⟩) 1 [⟨false, x, []⟩] from C_of_at (xs := [(⟨false, x, []⟩ : Val)]) (by simp) (fun j z hj => by
    match j, hj with
    | 0, hj =>
      obtain rfl : (⟨false, x, []⟩ : Val) = z := by simpa using hj
      refine ⟨_, kVal_mk Wb (⟨false, x, []⟩ : Val) (A2 := none) (c2 := 0) (by simp) (Kd.C_nil _ _), fun i v hv => ?_⟩
      rw [Nat.zero_mul, Nat.zero_add, Addr.add_lit, Nat.zero_add, row_cell hrow]
      simpa using hv))
  have HROW := Lib.hid hrow
  have HBOX := Lib.hid hbox
  have HBEL := Lib.hid hbel
  have HOTH := Lib.hid hoth
  have HSZ := Lib.hid hsz
  have HT := Lib.hid htr
  have HP := Lib.hid hp
  have HAL := Lib.hid hal
  have HMM := Lib.hid HM
  have Y10 := Lib.hid y10
  have HNE := Lib.hid (show b4 ≠ gv ∧ b5 ≠ gv ∧ b6 ≠ gv ∧ b7 ≠ gv ∧ b10 ≠ gv from ⟨ne4, ne5, ne6, ne7, ne10⟩)
  have HWB := Lib.hid hWb
  clear hrow hbox hbel hoth hsz htr hp hal HM ha hml hw y4 y5 y6 y7 y10 yw ne4 ne5 ne6 ne7 ne10 hWb c5 c6 r0 r1 r2 f0 f1 f2
  go_cut [8, 9] (fun a b' wx => a = .bool b ∧ b' = .int .i64 e ∧ Bel Wb wx)
  case first =>
    go_region_held3 (fun w' => w'.cell? ⟨b4, 0, none⟩ = some (.pointer (some ⟨g, 0, none⟩)) ∧ w'.cell? ⟨b6, 0, none⟩ = some (.slice (some ⟨gv, 0, none⟩) 1 cv) ∧ w'.cell? ⟨b7, 0, none⟩ = some (.func (.func mf) #[] #[]) ∧ w'.cell? ⟨g, 0, none⟩ = some (.string n) ∧ w'.cell? ⟨g, 1, none⟩ = some (.slice A args.length c)) (first | exact ⟨HB1.cell q4, HB1.cell q6, HB1.cell q7, HB1.cell w0, HB1.cell w1⟩ | go_keep) (first | (go_at_call 90; refine (tool_holds HMM.out A c (some ⟨gv, 0, none⟩) cv _ (HML.out.bel inferInstance) (Kd.now HA.out inferInstance) (Kd.now HV.out inferInstance) HAL.out han HT.out hf HP.out).mono ?_; rintro e1 wy ⟨rfl, HB1⟩))
    all_goals (go_wp2_with fail; go_meet; refine ⟨rfl, rfl, ?_⟩; first | assumption | exact Bel.trans inferInstance (by assumption))
  case rest =>
    obtain ⟨rfl, rfl, hb⟩ := hcut
    have hat : ∀ k (o : Obj), Wb.heap[k]? = some o → wc.heap[k]? = some o := fun k o h => (hb.out.block _ (blk_lt h)).trans h
    have hkeep : ∀ k, k < W.heap.size → k ≠ gv → wc.heap[k]? = W.heap[k]? := by
      intro k hk hne
      obtain ⟨o, ho⟩ : ∃ o, W.heap[k]? = some o := ⟨_, Array.getElem?_eq_getElem hk⟩
      rw [ho]
      exact hat _ _ (HOTH.out k o ho hne)
    have hmov : AccV u u wc vout out := AccV.move HS.out.out (HBEL.out.trans hb) (fun k hk => by
      obtain ⟨inner, ho⟩ := Kd.R_own HS.out.out.own
      obtain ⟨cells, hc⟩ := own_typed ho k hk
      exact hkeep k (blk_lt hc) (fun e => HS.out.nov (e ▸ hk)))
    have hsize : W.heap.size ≤ wc.heap.size := by have := HSZ.out; have := hb.out.size; omega
    have hL : LeftAt u wc b4 b5 b6 b7 b10 g gv mf cv vout out x :=
      ⟨HBEL.out.trans hb, hat _ _ (HOTH.out _ _ HS.out.x4 HNE.out.1), hat _ _ (HOTH.out _ _ HS.out.x5 HNE.out.2.1), hat _ _ (HOTH.out _ _ HS.out.x6 HNE.out.2.2.1), hat _ _ (HOTH.out _ _ HS.out.x7 HNE.out.2.2.2.1), hat _ _ Y10.out, hat _ _ HROW.out, hmov, HS.out.lg, HS.out.l10, HS.out.nov, HS.out.n610⟩
    have hX := hat _ _ HBOX.out
    have X0 : wc.cell? ⟨W.heap.size, 0, none⟩ = some (.bool false) := row_cell hX 0
    have X1 : wc.cell? ⟨W.heap.size, 1, none⟩ = some (.int .i64 x) := row_cell hX 1
    have X2 : wc.cell? ⟨W.heap.size, 2, none⟩ = some (.slice none 0 0) := row_cell hX 2
    have X10 : wc.cell? ⟨b10, 0, none⟩ = some vout := Boxed.cell hL.x10
    have HL := Lib.hid hL
    have HK := Lib.hid hkeep
    have HSI := Lib.hid hsize
    clear hat hkeep hmov hsize hL hX q4 q6 q7 w0 w1
    cases b with
    | false =>
      go_wp2
      go_ret
      exact ⟨rfl, vout, by simpa [keepL] using HL.out, fun k h1 h2 _ _ => HK.out k h1 h2, HSI.out⟩
    | true =>
      by_cases he : e = 0
      · subst he
        obtain ⟨A0, c0, hv0⟩ := HL.out.out.len
        have hty : ∀ k, vout.ownBlock = some k → ∃ cells, wc.heap[k]? = some (.cells cells 53 (0, 0)) := fun k hk => by
          obtain ⟨inner, ho⟩ := Kd.R_own HL.out.out.own
          exact own_typed ho k hk
        have hnb : vout.ownBlock ≠ some b10 := fun h => by
          obtain ⟨cs, hc⟩ := hty b10 h
          exact absurd ((show wc.heap[b10]? = some (.cells #[vout] 25 (0, 0)) from HL.out.x10).symm.trans hc) (by simp)
        have HTY := Lib.hid hty
        have HNB := Lib.hid hnb
        clear hty hv0 hnb
        go_wp2_with (at_builtin; go_loud (refine Acc.app2 (d := kValO u) (e := 53) (w0 := u) (Wr := wc) HL.out.out (bytes := 40) (z := .agg #[.bool false, .int .i64 0, .slice none 0 0]) (p := (⟨false, x, []⟩ : Val)) (cs := [.bool false, .int .i64 x, .slice none 0 0]) Tryz.underlying25 info53 rfl (Nat.succ_pos 2) (by decide) rfl rfl rfl rfl (by simp) inferInstance (kValO_M u _ _ _ (⟨false, x, []⟩ : Val) (by simp) (Kd.C_nil _ _)) (by omega) ?_; intro v1 w2 HO1 hg1 hat1; obtain ⟨A1, c1, rfl⟩ := HO1.len; have p10 := (hg1.block b10 (blk_lt HL.out.x10) (fun h => HNB.out h.symm)).trans HL.out.x10; have p0 := Boxed.cell (W := w2) (B := b10) (t := 25) (v := vout) p10; have pf := Boxed.frozen (W := w2) (B := b10) (t := 25) (v := vout) p10; have P10 := Lib.hid p10; have HG1 := Lib.hid hg1; have HAT := Lib.hid hat1; clear p10 hg1 hat1))
        go_ret
        have hat2 := HAT.out
        simp only [List.length_append, List.length_cons, List.length_nil, Nat.zero_add] at HO1 hat2
        refine ⟨rfl, _, try_end HL.out HO1 HG1.out hat2 P10.out HNB.out (by simp [keepL]), fun k h1 h2 h3 h4 => ?_, ?_⟩
        · rw [heap_setCell_other _ _ _ _ h3, HG1.out.block k (Nat.lt_of_lt_of_le h1 HSI.out) h4]
          exact HK.out k h1 h2
        · have := HG1.out.size
          rw [World.size_setCell]
          exact Nat.le_trans HSI.out this
      · have he' : (e == 0) = false := by simpa using he
        go_wp2
        go_ret
        exact ⟨rfl, vout, by simpa [keepL, he] using HL.out, fun k h1 h2 _ _ => HK.out k h1 h2, HSI.out⟩
end Go.Proofs.YtkdedpofghlmoaaGreatDoor
