/- What dom.Each's closure hands on, round by round. No statement is proved here. -/
import Derived.Test.YtkdedpofghlmoaaGreatDoorE1
import Derived.Test.YtkdedpofghlmoaaGreatDoorR4
import Derived.RangeFuncNested
import Derived.RangeFuncBound
import Derived.RangeFuncCalls
import Derived.RangeFuncLeaves
import Derived.OwnWalkIn
import Derived.TacticsInMore
import Derived.LoopNIn
import Derived.LoopIn
set_option linter.unusedVariables false
set_option linter.unusedSimpArgs false
namespace Go.Proofs.YtkdedpofghlmoaaGreatDoor
open Go.RowKit Go.Proofs.YtkdedpofghlmoaaGreatDoorW.PrintWords
/-- The blocks of S are as they were, and so is each box of one range. -/
structure KeepE (S : Nat → Prop) (W W' : World) : Prop where
  at_ : ∀ (k : Nat), S k → W'.heap[k]? = W.heap[k]?
  box : ∀ (k : Nat) (a b : Value), W.heap[k]? = some (Obj.cells #[a, b] 101 (0, 0)) → W'.heap[k]? = some (Obj.cells #[a, b] 101 (0, 0))
theorem KeepE.refl (S : Nat → Prop) (W : World) : KeepE S W W := ⟨fun _ _ => rfl, fun _ _ _ h => h⟩
theorem KeepE.trans {S : Nat → Prop} {A B C : World} (h : KeepE S A B) (k : KeepE S B C) : KeepE S A C := ⟨fun i hi => (k.at_ i hi).trans (h.at_ i hi), fun i a b hi => k.box i a b (h.box i a b hi)⟩
theorem KeepE.cell {S : Nat → Prop} {W W' : World} (h : KeepE S W W') {p : Addr} {v : Value} (hp : S p.block) (hc : W.cell? p = some v) : W'.cell? p = some v := (World.cell?_of_block (w := W) (h.at_ p.block hp)).trans hc
theorem KeepE.bel {S : Nat → Prop} {W A B : World} (h : KeepE S W A) (hS : ∀ k, S k → k < W.heap.size) (hb : Bel A B) : KeepE S W B := by
  refine ⟨fun k hk => ?_, fun k a b hk => (hb.out.block k (blk_lt (h.box k a b hk))).trans (h.box k a b hk)⟩
  have h1 := h.at_ k hk
  obtain ⟨o, ho⟩ : ∃ o, W.heap[k]? = some o := ⟨_, Array.getElem?_eq_getElem (hS k hk)⟩
  exact (hb.out.block k (blk_lt (h1.trans ho))).trans h1
theorem blk_cell {W : World} {k : Nat} {cs : Array Value} {t : TypeId} {fr : Nat × Nat} (h : W.heap[k]? = some (.cells cs t fr)) (j : Nat) : W.cell? ⟨k, j, none⟩ = cs[j]? := by
  simp [World.cell?, h]
theorem add_blk (ad : Addr) (n : Nat) : (ad.add n).block = ad.block := by unfold Addr.add; split <;> rfl
set_option maxRecDepth 100000 in
set_option maxHeartbeats 2000000 in
theorem each1 (n : Nat) (hn : 1 ≤ n) (g : Nat) (A1 : Option Addr) (c1 : Nat) (t : List Rng) (w : World) (hl : t.length ≤ 4096) (hin : ∀ r ∈ t, -1000000 ≤ r.lo ∧ r.lo ≤ r.hi ∧ r.hi ≤ 1000000)
    (hbox : w.cell? ⟨g, 0, none⟩ = some (.slice A1 t.length c1)) (hC : kRng.C w A1 t.length t) (S : Nat → Prop) (hS : S g) (hSl : ∀ k, S k → k < w.heap.size) (hSA : ∀ ad, A1 = some ad → S ad.block) :
    SeqStopsK Fence.wide n Tryz.prog 245 #[.pointer (some ⟨g, 0, none⟩)] (fun x : Int => #[Value.int .i64 x]) (KeepE S) (fun ys => ys = vals t) (fun pre => pre <+: vals t) (vals t).length w := by
  intro l J Jx W hW hJa _ hY h0
  have HJA := Lib.hid hJa
  have HSL := Lib.hid (show ∀ k, S k → k < W.heap.size from fun k hk => Nat.lt_of_lt_of_le (hSl k hk) hW.size)
  clear hSl
  have HY := Lib.hid hY
  have hbox' := cell_now hW hbox
  have HC := Lib.hid (Kd.C_below hC hW)
  have HIN := Lib.hid hin
  have HSA := Lib.hid hSA
  clear hY hC hin hbox hSA hJa
  refine callsIn_of_wp Tryz.func245 rfl trivial ?_ rfl
  simp only [Tryz.ntmps245, List.size_toArray, List.length_cons, List.length_nil, Nat.reduceAdd, Nat.reduceSub, Array.replicate_succ, Array.replicate_zero, List.push_toArray, List.append_toArray, List.nil_append, List.cons_append]
  gi_wp2
  gi_loopw [5, 8] (fun _ i wr => ∃ (k : Nat) (pre : List Int), k ≤ t.length ∧ i = .int .i64 k ∧ Hid (J pre wr) ∧ Hid (KeepE S W wr) ∧ Hid (pre ++ vals (t.drop k) = vals t)) (fun _ i _ => t.length - (intOf i).toNat)
  case atStart => exact ⟨0, [], Nat.zero_le _, rfl, Lib.hid h0, Lib.hid (KeepE.refl _ _), Lib.hid (by simp)⟩
  case round =>
    obtain ⟨k, pre, hk, rfl, HJ, HK, HX⟩ := hrel
    by_cases hlt : k < t.length
    · obtain ⟨r, hr⟩ : ∃ r, t[k]? = some r := ⟨t[k], List.getElem?_eq_getElem hlt⟩
      obtain ⟨ad, rfl, c0, d0⟩ := Rng.nth HC.out hr
      obtain ⟨b0, b1, b2⟩ := HIN.out r (List.mem_of_getElem? hr)
      have HSb := Lib.hid (HSA.out _ rfl)
      replace c0 := HK.out.cell (by rw [add_blk]; exact HSb.out) c0
      replace d0 := HK.out.cell (by show S (ad.add (k * 2)).block; rw [add_blk]; exact HSb.out) d0
      have HX' := HX.out
      rw [drop_at hr, vals_cons] at HX'
      replace HX' := Lib.hid HX'
      clear HX hr
      obtain ⟨wo, rfl⟩ : ∃ wo : World, wo = wr := ⟨_, rfl⟩
      gi_wp2
      gi_loopw [5] (fun x wr => ∃ (n : Int) (pre : List Int), r.lo ≤ n ∧ n ≤ r.hi + 1 ∧ x = .int .i64 n ∧ Hid (J pre wr) ∧ Hid (KeepE S W wr) ∧ Hid (wr.heap[wo.heap.size]? = some (Obj.cells #[.int .i64 r.lo, .int .i64 r.hi] 101 (0, 0))) ∧ Hid (pre ++ (irange n r.hi ++ vals (t.drop (k + 1))) = vals t)) (fun x _ => (r.hi + 1 - intOf x).toNat)
      case atStart =>
        exact ⟨r.lo, pre, by omega, by omega, rfl, Lib.hid (HJA.out _ _ _ none HJ.out (World.grownBy_alloc _ _ none) (fun _ e => by cases e)), Lib.hid (HK.out.bel HSL.out inferInstance), Lib.hid (heap_alloc_new _ _), HX'⟩
      case round =>
        clear HX' HJ HK c0 d0
        obtain ⟨x, pre, hx0, hx1, rfl, HJ, HK, HBX, HX⟩ := hrel
        have e1 : wr.cell? ⟨wo.heap.size, 1, none⟩ = some (.int .i64 r.hi) := blk_cell HBX.out 1
        by_cases hle : x ≤ r.hi
        · have HX' := HX.out
          rw [irange_cons hle, List.cons_append] at HX'
          have hpl : pre.length < (vals t).length := by
            have := congrArg List.length HX'
            simp only [List.length_append, List.length_cons] at this
            omega
          replace HX' := Lib.hid HX'
          obtain ⟨fn, tmps, assign, body, hy, hR⟩ := HY.out pre x wr HJ.out hpl
          gi_wp2
          refine hR.mono ?_
          rintro e W3 (⟨rfl, hJ3, hk3⟩ | ⟨rfl, hJx3⟩)
          · have HJ3 := Lib.hid hJ3
            have HK3 := Lib.hid (HK.out.trans hk3)
            have HB3 := Lib.hid (hk3.box _ _ _ HBX.out)
            clear hJ3 hk3 HX HJ HK HBX e1 hy
            gi_wp2
            go_roundw
            case rel => exact ⟨x + 1, pre ++ [x], by omega, by omega, rfl, HJ3, HK3, HB3, Lib.hid (by rw [List.append_assoc]; exact HX'.out)⟩
            case measure => simp [intOf]; omega
          · have HJX := Lib.hid hJx3
            clear hJx3 HX HJ HK HBX e1 hy
            gi_wp2
            refine bodyPost_ret (results_none rfl _ _ _) rfl ?_
            exact ⟨⟨_, rfl⟩, .inr ⟨_, ⟨_, by have := HX'.out; rw [← this, List.append_assoc]; rfl⟩, HJX.out⟩⟩
        · gi_wp2
          go_roundw
          case rel => exact ⟨k + 1, pre, by omega, by go_num, HJ, HK, Lib.hid (by have := HX.out; rwa [irange_nil (by omega), List.nil_append] at this)⟩
          case measure => simp [intOf]; omega
    · obtain rfl : k = t.length := by omega
      gi_wp2
      go_end0
      exact ⟨⟨_, rfl⟩, .inl ⟨_, rfl, by have := HX.out; rw [List.drop_length, show vals [] = [] from rfl, List.append_nil] at this; rw [← this]; exact HJ.out⟩⟩
end Go.Proofs.YtkdedpofghlmoaaGreatDoor
