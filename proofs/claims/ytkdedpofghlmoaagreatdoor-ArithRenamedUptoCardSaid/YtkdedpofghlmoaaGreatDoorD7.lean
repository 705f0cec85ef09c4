/- The walks of dom.in, Without. No statement is proved here. -/
import Derived.Test.YtkdedpofghlmoaaGreatDoorD6
set_option linter.unusedVariables false
set_option linter.unusedSimpArgs false
namespace Go.Proofs.YtkdedpofghlmoaaGreatDoor
open Go.RowKit Go.Proofs.YtkdedpofghlmoaaGreatDoorW.PrintWords
def inB (v : Int) : Bool := decide (-1000000 ≤ v) && decide (v ≤ 1000000)
theorem dom_in (v : Int) (w : World) : Calls Tryz.prog 247 #[.int .i64 v] w fun e w' => e = .returned (.bool (inB v)) ∧ Bel w w' := by
  unfold inB
  by_cases h1 : -1000000 ≤ v
  all_goals
    by_cases h2 : v ≤ 1000000
    all_goals
      go_enter Tryz.func247, Tryz.ntmps247
      go_wp2
      go_ret
      exact ⟨by simp [h1, h2], inferInstance⟩
def lessV (l : List Rng) (v : Int) : List Rng := bothL (takenL l) (restL (takenL [⟨v, v⟩]))
def withoutL (l : List Rng) (v : Int) : List Rng := if (lessV l v).length ≤ 4096 ∧ inB v = true then lessV l v else takenL l
theorem lit_Rng (w W : World) [hb : Bel w W] (lo hi : Int) : kRng.C (W.alloc (.cells #[.int .i64 lo, .int .i64 hi] 101)) (some ⟨W.heap.size, 0, none⟩) 1 [⟨lo, hi⟩] :=
  (Acc.lit1 (d := kRng) (e := 101) (x := (⟨lo, hi⟩ : Rng)) (cs := [.int .i64 lo, .int .i64 hi]) hb (kRng_mkM _ _ _ _)).C.2.2
set_option maxHeartbeats 1000000 in
theorem dom_Without (A : Option Addr) (c : Nat) (l : List Rng) (v : Int) (w : World) (hc : l.length ≤ c) (hr : kRng.C w A l.length l) :
    Calls Tryz.prog 212 #[.slice A l.length c, .int .i64 v] w (RetS kRng (withoutL l v) w) := by
  have HR := Lib.hid hr
  clear hr
  have hlen := takenL_len l
  by_cases h4 : (lessV l v).length ≤ 4096
  · cases hi : inB v
    · have HF := Lib.hid (show withoutL l v = takenL l by unfold withoutL; rw [if_neg (by simp [hi])])
      have HI := Lib.hid hi
      clear hi
      go_enter Tryz.func212, Tryz.ntmps212
      go_wp2_with fail
      refine (dom_Less _ _ _ 1 _ [⟨v, v⟩] _ hc (by simp) (Kd.now HR.out inferInstance) (lit_Rng w w v v)).mono ?_
      intro e w1 h
      unfold RetLess at h
      rw [if_pos (show (bothL (takenL l) (restL (takenL [⟨v, v⟩]))).length ≤ 4096 from h4)] at h
      obtain ⟨A1, c1, rfl, hl1, hr1, HB1⟩ := h
      replace HB1 := Bel.trans (inferInstance : Bel w (w.alloc _)) HB1
      clear hr1
      go_wp2_with (go_at_call 247; refine (dom_in _ _).mono ?_; rintro e w2 ⟨rfl, HB2⟩; rw [HI.out])
      refine (dom_taken _ _ _ _ hc (Kd.now HR.out (HB1.trans HB2))).mono ?_; rintro e w3 ⟨A2, c2, rfl, hl2, hr2, HB3⟩; have HR2 := Lib.hid hr2; clear hr2
      go_wp2_with fail
      refine (clone_Rng _ _ _ _ HR2.out (by omega)).mono ?_; rintro e w4 ⟨v, rfl, HO⟩
      go_wp2
      go_ret
      obtain ⟨A3, c3, rfl, h3, h4⟩ := HO.reads
      rw [HF.out]
      exact ⟨_, _, rfl, h3, h4, ((HB1.trans HB2).trans HB3).trans HO.bel⟩
    · have HF := Lib.hid (show withoutL l v = lessV l v by unfold withoutL; rw [if_pos ⟨h4, hi⟩])
      have HI := Lib.hid hi
      clear hi
      go_enter Tryz.func212, Tryz.ntmps212
      go_wp2_with fail
      refine (dom_Less _ _ _ 1 _ [⟨v, v⟩] _ hc (by simp) (Kd.now HR.out inferInstance) (lit_Rng w w v v)).mono ?_
      intro e w1 h
      unfold RetLess at h
      rw [if_pos (show (bothL (takenL l) (restL (takenL [⟨v, v⟩]))).length ≤ 4096 from h4)] at h
      obtain ⟨A1, c1, rfl, hl1, hr1, HB1⟩ := h
      replace HB1 := Bel.trans (inferInstance : Bel w (w.alloc _)) HB1
      have HR1 := Lib.hid hr1
      clear hr1
      go_wp2_with (go_at_call 247; refine (dom_in _ _).mono ?_; rintro e w2 ⟨rfl, HB2⟩; rw [HI.out])
      go_ret
      rw [HF.out]
      exact ⟨A1, c1, rfl, hl1, Kd.now HR1.out HB2, HB1.trans HB2⟩
  · have HF := Lib.hid (show withoutL l v = takenL l by unfold withoutL; rw [if_neg (fun h => h4 h.1)])
    go_enter Tryz.func212, Tryz.ntmps212
    go_wp2_with fail
    refine (dom_Less _ _ _ 1 _ [⟨v, v⟩] _ hc (by simp) (Kd.now HR.out inferInstance) (lit_Rng w w v v)).mono ?_
    intro e w1 h
    unfold RetLess at h
    rw [if_neg (show ¬ (bothL (takenL l) (restL (takenL [⟨v, v⟩]))).length ≤ 4096 from h4)] at h
    obtain ⟨rfl, HB1⟩ := h
    replace HB1 := Bel.trans (inferInstance : Bel w (w.alloc _)) HB1
    go_wp2_with fail
    refine (dom_taken _ _ _ _ hc (Kd.now HR.out HB1)).mono ?_; rintro e w3 ⟨A2, c2, rfl, hl2, hr2, HB3⟩; have HR2 := Lib.hid hr2; clear hr2
    go_wp2_with fail
    refine (clone_Rng _ _ _ _ HR2.out (by omega)).mono ?_; rintro e w4 ⟨v, rfl, HO⟩
    go_wp2
    go_ret
    obtain ⟨A3, c3, rfl, h3, h4⟩ := HO.reads
    rw [HF.out]
    exact ⟨_, _, rfl, h3, h4, (HB1.trans HB3).trans HO.bel⟩
end Go.Proofs.YtkdedpofghlmoaaGreatDoor
