/- The walks of dom.Norm and dom.Of at one value. No statement is proved here. -/
import Derived.Test.YtkdedpofghlmoaaGreatDoorP3
import Derived.Test.YtkdedpofghlmoaaGreatDoorI3
import Derived.LoopN
set_option linter.unusedVariables false
set_option linter.unusedSimpArgs false
namespace Go.Proofs.YtkdedpofghlmoaaGreatDoor
open Go.RowKit Go.Proofs.YtkdedpofghlmoaaGreatDoorW.PrintWords
set_option maxHeartbeats 1000000 in
theorem insert_one (A : Option Addr) (c : Nat) (f : Value) (w : World) :
    Calls Tryz.prog 313 #[.slice A 1 c, .int .i64 0, .int .i64 1, f] w fun e w' => e = .returned (.tuple #[]) ∧ w' = w := by
  go_enter Tryz.func313, Tryz.ntmps313
  go_wp2_with fail
  refine wp_loop_once ?_
  go_wp2
  go_returns
  exact ⟨rfl, rfl⟩
set_option maxHeartbeats 1000000 in
theorem pdq_one (A : Option Addr) (c : Nat) (k : Int) (f : Value) (w : World) :
    Calls Tryz.prog 288 #[.slice A 1 c, .int .i64 0, .int .i64 1, .int .i64 k, f] w fun e w' => e = .returned (.tuple #[]) ∧ w' = w := by
  go_enter Tryz.func288, Tryz.ntmps288
  go_wp2_with fail
  refine wp_loop_once ?_
  go_wp2_with (go_at_call 313; refine (insert_one _ _ _ _).mono ?_; rintro e w1 ⟨rfl, rfl⟩)
  go_returns
  exact ⟨rfl, rfl⟩
theorem bits_Len1 (w : World) : Calls Tryz.prog 229 #[.int .u64 1] w fun e w' => e = .returned (.int .i64 1) ∧ w' = w := by
  go_enter Tryz.func229, Tryz.ntmps229
  go_wp2_with (go_at_call 282; refine (bits_Len64 (x := 1) (k := 1) (by decide) (by decide) (by decide) _).mono ?_; rintro e w1 ⟨rfl, rfl⟩)
  go_ret
  exact ⟨rfl, rfl⟩
set_option maxHeartbeats 1000000 in
theorem sort_one (A : Option Addr) (c : Nat) (f : Value) (w : World) :
    Calls Tryz.prog 248 #[.slice A 1 c, f] w fun e w' => e = .returned (.tuple #[]) ∧ Bel w w' := by
  go_enter Tryz.func248, Tryz.ntmps248
  go_wp2_with fail
  refine (bits_Len1 _).mono ?_
  rintro e w1 ⟨rfl, rfl⟩
  go_wp2_with (go_at_call 288; refine (pdq_one _ _ _ _ _).mono ?_; rintro e w1 ⟨rfl, rfl⟩)
  go_returns
  exact ⟨rfl, inferInstance⟩
theorem Acc.fresh {α : Type} {d : Kd α} {e : Nat} {w0 W : World} {v : Value} {xs : List α} (h : Acc d e w0 W v xs) (hx : xs ≠ []) : ∃ g c, v = .slice (some ⟨g, 0, none⟩) xs.length c ∧ w0.heap.size ≤ g := by
  obtain ⟨inner, ho⟩ := Kd.R_own h.own
  rcases ho.2 with ⟨_, h0⟩ | ⟨g, cap, cur, rfl, hg, _⟩
  · exact absurd (List.eq_nil_of_length_eq_zero h0) hx
  · exact ⟨g, cap, rfl, hg⟩
theorem C_move {α : Type} {d : Kd α} {W W' : World} {g n : Nat} {xs : List α} (h : d.C W (some ⟨g, 0, none⟩) n xs) (hK : ∀ x c, d.K W x c → d.K W' x c) (he : W'.heap[g]? = W.heap[g]?) : d.C W' (some ⟨g, 0, none⟩) n xs :=
  ⟨h.1, h.2.1, fun hn => by
    obtain ⟨ad, e, hc⟩ := h.2.2 hn
    cases e
    refine ⟨_, rfl, fun j p hp => ?_⟩
    obtain ⟨c, h1, h2, h3⟩ := hc j p hp
    refine ⟨c, h1, hK _ _ h2, fun i u hu => (World.cell?_of_block (w := W) ?_).trans (h3 i u hu)⟩
    rw [show ((⟨g, 0, none⟩ : Addr).add (j * d.sz + i)).block = g by unfold Addr.add; split <;> rfl]
    exact he⟩
theorem clip_one (ad : Addr) (c : Nat) (w : World) (hc : 1 ≤ c) :
    Calls Tryz.prog 251 #[.slice (some ad) 1 c] w fun e w' => e = .returned (.slice (some ad) 1 1) ∧ w' = w := by
  go_enter Tryz.func251, Tryz.ntmps251
  go_wp2
  go_ret
  exact ⟨rfl, rfl⟩
theorem in_yes {v : Int} (h : Hid (inB v = true)) (w : World) : Calls Tryz.prog 247 #[.int .i64 v] w fun e w' => e = .returned (.bool true) ∧ w' = w := by
  have h1 : -1000000 ≤ v ∧ v ≤ 1000000 := by have := h.out; simpa [inB] using this
  obtain ⟨h1, h2⟩ := h1
  go_enter Tryz.func247, Tryz.ntmps247
  go_wp2
  go_ret
  exact ⟨ret_b (by simp [h1, h2]), rfl⟩
set_option maxRecDepth 100000 in
set_option maxHeartbeats 2000000 in
theorem norm_one (v : Int) (hv : inB v = true) (A : Option Addr) (c : Nat) (w : World) (hr : kRng.C w A 1 [⟨v, v⟩]) :
    Calls Tryz.prog 185 #[.slice A 1 c] w fun e w' => ∃ g c', e = .returned (.tuple #[.slice (some ⟨g, 0, none⟩) 1 c', .int .i64 0]) ∧ w.heap.size ≤ g ∧ 1 ≤ c' ∧ kRng.C w' (some ⟨g, 0, none⟩) 1 [⟨v, v⟩] ∧ Bel w w' := by
  have HV := Lib.hid hv
  obtain ⟨ad, rfl, c0, c1⟩ := Rng.nth hr (k := 0) (x := ⟨v, v⟩) rfl
  change w.cell? ad = some (.int .i64 v) at c0
  change w.cell? ⟨ad.block, ad.off + 1, none⟩ = some (.int .i64 v) at c1
  have hvv : ¬ v > v := by omega
  clear hv hr
  go_enter Tryz.func185, Tryz.ntmps185
  go_wp2_with fail
  refine wp_loop_rounds 2 ?_
  rw [rounds_succ]
  go_wp2_with (first | (go_at_call 247; refine (in_yes HV _).mono ?_; rintro e w1 ⟨rfl, rfl⟩) | (at_builtin; refine AccR.app (w0 := w) (Wr := w.alloc (.cells #[.int .i64 v, .int .i64 v] 101)) (Acc.nilB inferInstance) rfl rfl rfl rfl (by simp) inferInstance (by simp) ?_; intro v1 w1 HO1 hk1; clear hk1))
  simp only [List.nil_append] at HO1
  obtain ⟨A1, c1', rfl, hl1, hC1⟩ := HO1.reads
  obtain ⟨sd, rfl, s0, s1⟩ := Rng.nth hC1 (k := 0) (x := ⟨v, v⟩) rfl
  simp only [List.length_cons, List.length_nil, Nat.zero_add] at hl1
  change w1.cell? sd = some (.int .i64 v) at s0
  change w1.cell? ⟨sd.block, sd.off + 1, none⟩ = some (.int .i64 v) at s1
  have HB1 := Lib.hid HO1.bel
  clear hC1 HO1 c0 c1
  rw [rounds_succ]
  go_wp2_with fail
  refine (sort_one _ _ _ _).mono ?_
  rintro e w2 ⟨rfl, HB2⟩
  replace s0 := HB2.cell s0
  replace s1 := HB2.cell s1
  have HB12 := Lib.hid (HB1.out.trans HB2)
  clear HB2
  go_wp2_with fail
  refine wp_loop_rounds 2 ?_
  rw [rounds_succ]
  go_wp2_with fail
  go_quiet (fail)
  go_wp2_with (at_builtin; refine AccR.app (w0 := w) (Wr := w2) (Acc.nilB HB12.out) rfl rfl rfl rfl (by simp) inferInstance (by simp) ?_; intro v3 w3 HO3 hk3; clear hk3)
  simp only [List.nil_append] at HO3
  obtain ⟨g3, c3, rfl, hg3⟩ := HO3.fresh (by simp)
  obtain ⟨_, hl3, hC3⟩ := HO3.C
  simp only [List.length_cons, List.length_nil, Nat.zero_add] at hl3 hC3
  have HG3 := Lib.hid hg3
  have HC3 := Lib.hid hC3
  have HB3 := Lib.hid HO3.bel
  clear hC3 HO3 s0 s1
  rw [rounds_succ]
  go_wp2_with (go_at_call 251; refine (clip_one _ _ _ hl3).mono ?_; rintro e w4 ⟨rfl, rfl⟩)
  go_ret2
  exact ⟨_, _, rfl, HG3.out, Nat.le_refl _, HC3.out, HB3.out⟩
end Go.Proofs.YtkdedpofghlmoaaGreatDoor
