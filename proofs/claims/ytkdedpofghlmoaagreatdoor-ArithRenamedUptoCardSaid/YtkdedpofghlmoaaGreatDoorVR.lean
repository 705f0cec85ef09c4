/- The walk of cons.Vars: a constraint's variables, rising, each once. No statement is proved here. -/
import Derived.Test.YtkdedpofghlmoaaGreatDoorV1
import Derived.Test.YtkdedpofghlmoaaGreatDoorSH
import Derived.Shelf.Sort.Plain
import Derived.Shelf.SlicesG.CompactI
import Derived.Shelf.Slices.In.SortNone
import Derived.Sort.OwnSortedInts
set_option linter.unusedVariables false
set_option linter.unusedSimpArgs false
namespace Go.Proofs.YtkdedpofghlmoaaGreatDoor
open Go.RowKit Go.Proofs.YtkdedpofghlmoaaGreatDoorW.PrintWords Go.Sort
def sortI (l : List Int) : List Int := l.mergeSort fun x y => decide (x ≤ y)
theorem encs_map (xs : List Int) : encs (Value.int .i64) xs = xs.map (Value.int .i64) := by rfl
theorem accN_own {w0 W : World} {v : Value} {xs : List Int} (h : AccN w0 W v xs) : (v = .slice none 0 0 ∧ xs = []) ∨ ∃ g cap cur, v = .slice (some ⟨g, 0, none⟩) xs.length cap ∧ w0.heap.size ≤ g ∧ W.heap[g]? = some (.cells cur 3 (0, 0)) ∧ xs.length ≤ cap ∧ cap ≤ maxLen ∧ cur.size = cap * 1 ∧ cur.toList.take xs.length = xs.map (Value.int .i64) := by
  obtain ⟨h1, h2⟩ := Kd.own_of_R h.own
  rcases h2 with ⟨rfl, h0⟩ | ⟨g, cap, cur, rfl, hg, hh, ha, hb, hc, hd⟩
  · left
    exact ⟨rfl, List.eq_nil_of_length_eq_zero h0⟩
  · right
    exact ⟨g, cap, cur, rfl, hg, hh, ha, hb, hc, by rw [← encs_map, ← hd, Nat.mul_one]⟩
theorem sort_own {w0 W : World} {v : Value} {xs : List Int} (h : AccN w0 W v xs) (hl : xs.length < 4611686018427387904) :
    Calls Tryz.prog 155 #[v] W fun e w' => e = .returned (.tuple #[]) ∧ AccN w0 w' v (sortI xs) := by
  rcases accN_own h with ⟨rfl, rfl⟩ | ⟨g, cap, cur, rfl, hg, hh, ha, hb, hc, hd⟩
  · refine (Any.slices_Sort_int_none lays155 none 0 W).mono ?_
    rintro e w' ⟨rfl, rfl⟩
    exact ⟨rfl, by simpa [sortI] using h⟩
  · refine (Any.slices_Sort_int lays155 g 0 cap xs W (holds_of_blockI hh hd) (blk_lt hh) hl).mono ?_
    rintro e w' ⟨rfl, n, os, rfl⟩
    refine ⟨rfl, ⟨Kd.R_of_own ?_ (fun _ _ => trivial), ⟨h.bel.out.grown (grownBy_sortedI _) h.bel.out.size (fun k e => by cases e; exact hg)⟩⟩⟩
    rw [encs_map]
    have := ownsRow_sortedI (w := W) (n := n) (os := os) (e := 3) (ss := xs) (ts := sortI xs) (by simp [sortI]) hg hh ha hb hc
    simpa [sortI] using this
theorem grow_nil (w : World) : grow w #[] = w := by
  cases w
  simp [grow]
theorem compact_own {w0 W : World} {v : Value} {xs : List Int} (h : AccN w0 W v xs) (hl : xs.length ≤ 9223372036854775807) :
    Calls Tryz.prog 156 #[v] W fun e w' => ∃ v', e = .returned v' ∧ AccN w0 w' v' (Lib.compact xs) := by
  rcases accN_own h with ⟨rfl, rfl⟩ | ⟨g, cap, cur, rfl, hg, hh, ha, hb, hc, hd⟩
  · refine (AnyG.slices_Compact_int_empty lays156 none 0 W).mono ?_
    rintro e w' ⟨rfl, rfl⟩
    exact ⟨_, rfl, h⟩
  · refine (AnyG.slices_Compact_int lays156 g 0 cap xs W (holds_of_blockI hh hd) hl ha).mono ?_
    rintro e w' ⟨rfl, q, rfl⟩
    have hlen : (Lib.compact xs).length ≤ xs.length := by
      simp only [Lib.compact, Lib.compactUpTo, List.length_map]
      exact Nat.le_trans (List.length_filter_le _ _) (by simp)
    have hw : putRow (Value.int .i64) (Sort.ahead W q) g 0 (Lib.compact xs ++ List.replicate (xs.length - (Lib.compact xs).length) 0).toArray = grow (putRow (Value.int .i64) (Sort.ahead W q) g 0 (Lib.compact xs ++ List.replicate (xs.length - (Lib.compact xs).length) 0).toArray) #[] := (grow_nil _).symm
    rw [hw]
    refine ⟨_, rfl, ⟨Kd.R_of_own ⟨by simp [encs_map], .inr ⟨g, cap, _, rfl, hg, heap_sortedI _ hh, by omega, hb, by simp [putCells, hc], ?_⟩⟩ (fun _ _ => trivial), ⟨h.bel.out.grown (grownBy_sortedI _) h.bel.out.size (fun k e => by cases e; exact hg)⟩⟩⟩
    have ht := take_putCellsI cur (Lib.compact xs ++ List.replicate (xs.length - (Lib.compact xs).length) 0) (by simp; omega)
    have h2 := congrArg (List.take (Lib.compact xs).length) ht
    rw [List.take_take, Nat.min_eq_left (by simp)] at h2
    rw [encs_map, Nat.mul_one, h2]
    simp
def varsRaw (l : List Term) : List Int := (l.map fun t => t.var).filter fun v => decide (0 ≤ v)
theorem varsRaw_len (l : List Term) : (varsRaw l).length ≤ l.length := by
  unfold varsRaw
  exact Nat.le_trans (List.length_filter_le _ _) (by simp)
def varsL (args : List Arg) : List Int := Lib.compact (sortI (args.flatMap fun a => varsRaw a.l))
set_option maxHeartbeats 2000000 in
theorem cons_Vars (name : ByteArray) (A : Option Addr) (c : Nat) (args : List Arg) (w : World) (ha : kArg.C w A args.length args) (hl : ∀ a ∈ args, a.l.length ≤ 1000) (hn : args.length ≤ 1000) :
    Calls Tryz.prog 88 #[.agg #[.string name, .slice A args.length c]] w (RetO (Kd.int .i64) 3 (varsL args) w) := by
  have HA := Lib.hid ha
  have HL := Lib.hid hl
  clear ha hl
  go_enter Tryz.func88, Tryz.ntmps88
  go_wp2_with fail
  go_loopw [3, 11] (fun v i wr => ∃ (k : Nat) (out : List Int), k ≤ args.length ∧ i = .int .i64 k ∧ out.length ≤ 1000 * k ∧ AccN w wr v out ∧ Hid (out ++ (args.drop k).flatMap (fun a => varsRaw a.l) = args.flatMap fun a => varsRaw a.l)) (fun _ i _ => args.length - (intOf i).toNat)
  case atStart => exact ⟨0, [], by omega, rfl, by simp, Acc.nilB inferInstance, Lib.hid (by simp)⟩
  case round =>
    obtain ⟨k, out, hk, rfl, ho, HO, HX⟩ := hrel
    by_cases hlt : k < args.length
    · obtain ⟨a, hr⟩ : ∃ r, args[k]? = some r := ⟨args[k], List.getElem?_eq_getElem hlt⟩
      obtain ⟨ad, A1, c1, rfl, e0, e1, hl1, hC1⟩ := Arg.nth HA.out hr
      have HC1 := Lib.hid hC1
      have hal := HL.out a (List.mem_of_getElem? hr)
      have HX' := HX.out
      rw [drop_at hr, List.flatMap_cons] at HX'
      replace HX' := Lib.hid HX'
      replace e0 := HO.cell e0
      replace e1 := HO.cell e1
      clear hr HX hC1
      go_wp2_with fail
      go_loopw [3, 18] (fun v i wr => ∃ (j : Nat) (row : List Int), j ≤ a.l.length ∧ i = .int .i64 j ∧ row.length ≤ 1000 * k + j ∧ AccN w wr v row ∧ Hid (row ++ varsRaw (a.l.drop j) = out ++ varsRaw a.l)) (fun _ i _ => a.l.length - (intOf i).toNat)
      case atStart => exact ⟨0, out, by omega, rfl, by omega, inferInstance, Lib.hid (by simp)⟩
      case round =>
        obtain ⟨j, row, hj, rfl, hro, HI, HY⟩ := hrel
        by_cases hlj : j < a.l.length
        · obtain ⟨t, hr⟩ : ∃ r, a.l[j]? = some r := ⟨a.l[j], List.getElem?_eq_getElem hlj⟩
          obtain ⟨td, A3, c3, rfl, t0, t1, t2, t3, hl3, hC3⟩ := Term.nth HC1.out hr
          have HY' := HY.out
          rw [drop_at hr, varsRaw, List.map_cons, List.filter_cons] at HY'
          replace t0 := HI.cell t0
          replace t1 := HI.cell t1
          replace t2 := HI.cell t2
          replace t3 := HI.cell t3
          clear hr HY hC3
          by_cases hv : 0 ≤ t.var
          · rw [if_pos (by simpa using hv)] at HY'
            replace HY' := Lib.hid HY'
            go_wp2_with (at_builtin; refine AccN.app HI rfl rfl rfl rfl (by simp) inferInstance (by omega) ?_; intro v1 w2 HO2 hk2; clear hk2)
            go_roundw
            case rel => exact ⟨j + 1, _, by omega, by go_num, by simp; omega, HO2, Lib.hid (by have := HY'.out; simpa [varsRaw] using this)⟩
            case measure => simp [intOf]; omega
          · rw [if_neg (by simpa using hv)] at HY'
            replace HY' := Lib.hid HY'
            go_wp2
            go_roundw
            case rel => exact ⟨j + 1, row, by omega, by go_num, by omega, inferInstance, Lib.hid (by have := HY'.out; simpa [varsRaw] using this)⟩
            case measure => simp [intOf]; omega
        · obtain rfl : j = a.l.length := by omega
          have hy := HY.out
          rw [List.drop_length, show varsRaw [] = [] from rfl, List.append_nil] at hy
          subst hy
          go_wp2
          go_roundw
          case rel => exact ⟨k + 1, _, by omega, by go_num, by simp; have := varsRaw_len a.l; omega, HI, Lib.hid (by have := HX'.out; simpa using this)⟩
          case measure => simp [intOf]; omega
    · obtain rfl : k = args.length := by omega
      have hx := HX.out
      rw [List.drop_length, List.flatMap_nil, List.append_nil] at hx
      go_wp2_with fail
      refine (sort_own HO (by omega)).mono ?_
      rintro e w1 ⟨rfl, HO1⟩
      go_wp2_with fail
      refine (compact_own HO1 (by simp [sortI]; omega)).mono ?_
      rintro e w2 ⟨v2, rfl, HO2⟩
      go_wp2
      go_ret
      rw [varsL, ← hx]
      exact ⟨_, rfl, HO2⟩
end Go.Proofs.YtkdedpofghlmoaaGreatDoor
