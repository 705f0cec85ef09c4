/- What tool.Prune's own memory holds between its steps. No statement is proved here. -/
import Derived.Test.YtkdedpofghlmoaaGreatDoorL2
import Derived.Test.YtkdedpofghlmoaaGreatDoorP3
import Derived.Test.YtkdedpofghlmoaaGreatDoorW4
set_option linter.unusedVariables false
set_option linter.unusedSimpArgs false
namespace Go.Proofs.YtkdedpofghlmoaaGreatDoor
open Go.RowKit Go.Proofs.YtkdedpofghlmoaaGreatDoorW.PrintWords
def vT : Term := ⟨0, ⟨false, 0, []⟩⟩
abbrev l9 : List Rng := [⟨-9, 9⟩]
abbrev a3 (x y : Int) : List Arg := [tA (cT x), tA (cT y), tA vT]
theorem right_a3 {n : ByteArray} (h : Name3 n) {x y : Int} (hx : inB x = true) (hy : inB y = true) : rightE n (a3 x y) [false] = 0 := by
  rw [right3 h, asks_cT, asks_cT, hx, hy]
  rfl
theorem vars_a3 (x y : Int) : varsL (a3 x y) = [0] := by
  show Lib.compact (sortI [0]) = [0]
  rw [show sortI [0] = [0] from by simp [sortI]]
  rfl
theorem right_l9 : RightL l9 = true := by rfl
theorem size_l9 : sizeL (takenL l9) = 19 := by rfl
theorem vals_l9 : vals (takenL l9) = [-9, -8, -7, -6, -5, -4, -3, -2, -1, 0, 1, 2, 3, 4, 5, 6, 7, 8, 9] := by rfl
theorem same_l9 : sameL l9 [⟨-3, -3⟩] = false := by rfl
theorem values_a3 (x y z : Int) : valuesL [⟨false, z, []⟩] (a3 x y) = [[⟨false, x, []⟩], [⟨false, y, []⟩], [⟨false, z, []⟩]] := by
  simp [valuesL, tA, cT, vT, ofT]
theorem means_a3 {n : ByteArray} (h : Name3 n) {x y : Int} (hx : inB x = true) (hy : inB y = true) (z : Int) : MeansIs 78 n (valuesL [⟨false, z, []⟩] (a3 x y)) (meansL n x y z).1 (meansL n x y z).2 := by
  rw [values_a3]
  exact arith_means n ⟨false, x, []⟩ ⟨false, y, []⟩ ⟨false, z, []⟩ h.thr (in64_of hx) (in64_of hy)
theorem made_div72 : madeL nDiv (-7) 2 = (-3, 0) := by decide
theorem made_pow : madeL nPow 10 20 = (0, 10) := by decide
end Go.Proofs.YtkdedpofghlmoaaGreatDoor
set_option linter.unusedVariables false
set_option linter.unusedSimpArgs false
namespace Go.Proofs.YtkdedpofghlmoaaGreatDoor
open Go.RowKit Go.Proofs.YtkdedpofghlmoaaGreatDoorW.PrintWords
/-- The constraint's memory at g, the one domain at gd, its one range at gr. -/
structure PrAt (u W : World) (n : ByteArray) (A : Value) (ch : Bool) (g gd dc gr cr : Nat) (dcs : Array Value) (a b : Int) : Prop where
  bel : Bel u W
  lg : u.heap.size ≤ g
  lgd : u.heap.size ≤ gd
  lgr : u.heap.size ≤ gr
  row : W.heap[g]? = some (.cells (workC n A (.slice (some ⟨gd, 0, none⟩) 1 dc) ch false) 126 (0, 0))
  dom : W.heap[gd]? = some (.cells dcs 49 (0, 0))
  c0 : dcs[0]? = some (.bool false)
  c1 : dcs[1]? = some (.slice (some ⟨gr, 0, none⟩) 1 cr)
  c2 : dcs[2]? = some (.slice none 0 0)
  c3 : dcs[3]? = some (.slice none 0 0)
  c4 : dcs[4]? = some (.int .i64 0)
  c5 : dcs[5]? = some (.int .i64 0)
  hcr : 1 ≤ cr
  rng : kRng.C W (some ⟨gr, 0, none⟩) 1 [⟨a, b⟩]
  tr : ∃ cells, W.heap[gr]? = some (.cells cells 101 (0, 0))
theorem PrAt.move {u W W' : World} {n : ByteArray} {A : Value} {ch ch' : Bool} {g gd dc gr cr : Nat} {dcs : Array Value} {a b : Int} (h : PrAt u W n A ch g gd dc gr cr dcs a b) (hb : Bel u W')
    (hg : W'.heap[g]? = some (.cells (workC n A (.slice (some ⟨gd, 0, none⟩) 1 dc) ch' false) 126 (0, 0))) (hk : ∀ k, k < W.heap.size → k ≠ g → W'.heap[k]? = W.heap[k]?) : PrAt u W' n A ch' g gd dc gr cr dcs a b := by
  have nd : gd ≠ g := fun e => by
    have h1 := h.dom
    rw [e, h.row] at h1
    exact absurd h1 (by simp)
  have nr : gr ≠ g := fun e => by
    obtain ⟨cells, h1⟩ := h.tr
    rw [e, h.row] at h1
    exact absurd h1 (by simp)
  obtain ⟨cells, htr⟩ := h.tr
  have hr := hk gr (blk_lt htr) nr
  exact ⟨hb, h.lg, h.lgd, h.lgr, hg, (hk gd (blk_lt h.dom) nd).trans h.dom, h.c0, h.c1, h.c2, h.c3, h.c4, h.c5, h.hcr, C_move h.rng (fun _ _ h => h) hr, ⟨cells, hr.trans htr⟩⟩
theorem PrAt.later {u W W' : World} {n : ByteArray} {A : Value} {ch : Bool} {g gd dc gr cr : Nat} {dcs : Array Value} {a b : Int} (h : PrAt u W n A ch g gd dc gr cr dcs a b) (hb : Bel W W') : PrAt u W' n A ch g gd dc gr cr dcs a b :=
  h.move (h.bel.trans hb) ((hb.out.block _ (blk_lt h.row)).trans h.row) (fun k hk _ => hb.out.block k hk)
theorem PrAt.set3 {u W : World} {n : ByteArray} {A : Value} {ch : Bool} {g gd dc gr cr : Nat} {dcs : Array Value} {a b : Int} (h : PrAt u W n A ch g gd dc gr cr dcs a b) (c : Bool) : PrAt u (W.setCell ⟨g, 3, none⟩ (.bool c)) n A c g gd dc gr cr dcs a b := by
  have h1 := heap_setCell_same W g 3 _ 126 (.bool c) h.row
  exact h.move ⟨h.bel.out.setCell (p := ⟨g, 3, none⟩) h.lg _⟩ (by simpa using h1) (fun k _ hne => heap_setCell_other _ _ _ _ hne)
theorem PrAt.set4 {u W : World} {n : ByteArray} {A : Value} {ch : Bool} {g gd dc gr cr : Nat} {dcs : Array Value} {a b : Int} (h : PrAt u W n A ch g gd dc gr cr dcs a b) : PrAt u (W.setCell ⟨g, 4, none⟩ (.bool false)) n A ch g gd dc gr cr dcs a b := by
  have h1 := heap_setCell_same W g 4 _ 126 (.bool false) h.row
  exact h.move ⟨h.bel.out.setCell (p := ⟨g, 4, none⟩) h.lg _⟩ (by simpa using h1) (fun k _ hne => heap_setCell_other _ _ _ _ hne)
theorem PrAt.facts {u W : World} {n : ByteArray} {A : Value} {ch : Bool} {g gd dc gr cr : Nat} {dcs : Array Value} {a b : Int} (h : PrAt u W n A ch g gd dc gr cr dcs a b) :
    (∀ (V : World) [Bel W V], V.cell? ⟨g, 2, none⟩ = some (.slice (some ⟨gd, 0, none⟩) 1 dc)) ∧ (∀ (V : World) [Bel W V], V.cell? ⟨g, 3, none⟩ = some (.bool ch)) ∧ (∀ (V : World) [Bel W V], V.cell? ⟨g, 4, none⟩ = some (.bool false)) ∧
      (∀ (V : World) [Bel W V], V.frozen? ⟨g, 3, none⟩ = false) ∧ (∀ (V : World) [Bel W V], V.frozen? ⟨g, 4, none⟩ = false) :=
  ⟨fun V k => k.cell (row_cell h.row 2), fun V k => k.cell (row_cell h.row 3), fun V k => k.cell (row_cell h.row 4),
    fun V k => frozen_of_row V _ 3 _ _ ((k.out.block _ (blk_lt h.row)).trans h.row), fun V k => frozen_of_row V _ 4 _ _ ((k.out.block _ (blk_lt h.row)).trans h.row)⟩
theorem PrAt.cells {u W : World} {n : ByteArray} {A : Value} {ch : Bool} {g gd dc gr cr : Nat} {dcs : Array Value} {a b : Int} (h : PrAt u W n A ch g gd dc gr cr dcs a b) :
    W.cell? ⟨gd, 0, none⟩ = some (.bool false) ∧ W.cell? ⟨gd, 1, none⟩ = some (.slice (some ⟨gr, 0, none⟩) 1 cr) ∧ W.cell? ⟨gd, 2, none⟩ = some (.slice none 0 0) ∧ W.cell? ⟨gd, 3, none⟩ = some (.slice none 0 0) ∧ W.cell? ⟨gd, 4, none⟩ = some (.int .i64 0) ∧ W.cell? ⟨gd, 5, none⟩ = some (.int .i64 0) :=
  ⟨(row_cell h.dom 0).trans h.c0, (row_cell h.dom 1).trans h.c1, (row_cell h.dom 2).trans h.c2, (row_cell h.dom 3).trans h.c3, (row_cell h.dom 4).trans h.c4, (row_cell h.dom 5).trans h.c5⟩
/-- The domain's copy has been appended. -/
theorem prAt_start {u wz wa w2 w3 w4 : World} {n : ByteArray} {A : Value} {g gd dc cr : Nat} {cur : Array Value} {Ar : Option Addr} {a b : Int} (hu : Bel u wz) (hg : u.heap.size ≤ g)
    (hz : wz.heap[g]? = some (.cells (workC n A (.slice none 0 0) false false) 126 (0, 0))) (hza : Bel wz wa) (HO : Acc kRng 101 wa w2 (.slice Ar 1 cr) [⟨a, b⟩]) (h23 : Bel w2 w3) (h34 : Bel w3 w4) (hgd : w3.heap.size ≤ gd)
    (hd : w4.heap[gd]? = some (.cells cur 49 (0, 0))) (ht : cur.toList.take 6 = [.bool false, .slice Ar 1 cr, .slice none 0 0, .slice none 0 0, .int .i64 0, .int .i64 0]) :
    ∃ gr, Ar = some ⟨gr, 0, none⟩ ∧ PrAt u (w4.setCell ⟨g, 2, none⟩ (.slice (some ⟨gd, 0, none⟩) 1 dc)) n A false g gd dc gr cr cur a b := by
  obtain ⟨gr, cr', hv, hgr⟩ := HO.fresh (by simp)
  cases hv
  have hC := HO.C
  obtain ⟨inner, hown⟩ := Kd.R_own HO.own
  obtain ⟨cells, hty⟩ := own_typed hown gr rfl
  have b24 : Bel w2 w4 := h23.trans h34
  have bza : Bel wz w4 := (hza.trans HO.bel).trans b24
  have h4 : w4.heap[g]? = some (.cells (workC n A (.slice none 0 0) false false) 126 (0, 0)) := (bza.out.block _ (blk_lt hz)).trans hz
  have tr4 : w4.heap[gr]? = some (.cells cells 101 (0, 0)) := (b24.out.block _ (blk_lt hty)).trans hty
  have y := heap_setCell_same w4 g 2 _ 126 (.slice (some ⟨gd, 0, none⟩) 1 dc) h4
  have nd : gd ≠ g := fun e => by
    rw [e, h4] at hd
    exact absurd hd (by simp)
  have nr : gr ≠ g := fun e => by
    rw [e, h4] at tr4
    exact absurd tr4 (by simp)
  have kd : (w4.setCell ⟨g, 2, none⟩ (.slice (some ⟨gd, 0, none⟩) 1 dc)).heap[gd]? = w4.heap[gd]? := heap_setCell_other _ _ _ _ nd
  have kr : (w4.setCell ⟨g, 2, none⟩ (.slice (some ⟨gd, 0, none⟩) 1 dc)).heap[gr]? = w4.heap[gr]? := heap_setCell_other _ _ _ _ nr
  have cc : ∀ j, j < 6 → cur[j]? = ([.bool false, .slice (some ⟨gr, 0, none⟩) 1 cr, .slice none 0 0, .slice none 0 0, .int .i64 0, .int .i64 0] : List Value)[j]? := by
    intro j hj
    rw [← ht, List.getElem?_take, if_pos hj]
    simp
  have su := hu.out.size
  have sz := hza.out.size
  have s2 := HO.bel.out.size
  have s3 := h23.out.size
  refine ⟨gr, rfl, ⟨(hu.trans bza).out.setCell (p := ⟨g, 2, none⟩) hg _⟩, hg, by omega, by omega, by simpa using y, kd.trans hd, cc 0 (by omega), cc 1 (by omega), cc 2 (by omega), cc 3 (by omega), cc 4 (by omega), cc 5 (by omega), ?_, ?_, ⟨cells, kr.trans tr4⟩⟩
  · simpa using hC.2.1
  · refine C_move (W := w4) ?_ (fun _ _ h => h) kr
    exact Kd.now hC.2.2 b24
theorem rebase {w W : World} (hb : Bel w W) {a : Addr} {v : Value} (h : ∀ (V : World) [Bel w V], V.cell? a = some v) : ∀ (V : World) [Bel W V], V.cell? a = some v := fun V k => @h V (hb.trans k)
theorem Bel.grown {u W W' : World} {k : Nat} (h : Bel u W) (hg : W.grownBy W' (some k)) (hle : u.heap.size ≤ k) : Bel u W' :=
  ⟨⟨hg.os.trans h.out.os, hg.tape.trans h.out.tape, hg.output.trans h.out.output, Nat.le_trans h.out.size hg.size, fun j hj => by
    have := h.out.size
    rw [hg.block j (by omega) (fun e => by cases e; omega)]
    exact h.out.block j hj⟩⟩
end Go.Proofs.YtkdedpofghlmoaaGreatDoor
