/- What the walks of this seat have in common: the program's types as Lean types, and how they lie in memory. No statement is proved here. -/
import Derived.Test.YtkdedpofghlmoaaGreatDoorProg
import Derived.Below
import Derived.Deep.Draws
import Derived.OwnWalk
import Derived.Tactics
import Derived.WalkKit
import Derived.KernelRfl
import Derived.RowKit3
import Derived.Deep.LoopGhost
import Derived.Deep.QuietTactic
import Derived.BigQuiet
import Derived.Deep.DeepCutAuto
import Derived.Deep.CutBlock
import Derived.Deep.RegionHeld3
import Derived.Lib.Hide
import Derived.Outline
import Derived.RowKit
import Derived.Test.YtkdedpofghlmoaaGreatDoorWWords
set_option linter.unusedVariables false
set_option linter.unusedSimpArgs false
namespace Go.Proofs.YtkdedpofghlmoaaGreatDoor
open Go.RowKit Go.Proofs.YtkdedpofghlmoaaGreatDoorW.PrintWords

/-- An element that is read, by its place. -/
theorem Kd.nth {α : Type} {d : Kd α} {w : World} {A : Option Addr} {n : Nat} {xs : List α} (h : d.C w A n xs) {k : Nat} {x : α} (hk : xs[k]? = some x) :
    ∃ ad c, A = some ad ∧ d.K w x c ∧ ∀ j u, c[j]? = some u → w.cell? (ad.add (k * d.sz + j)) = some u := by
  have hlt : k < xs.length := (List.getElem?_eq_some_iff.1 hk).1
  have hn : xs.length = n := h.1
  obtain ⟨ad, c, e, _, hK, hc⟩ := Kd.C_get h x (k : Int) (by omega) (by omega)
  rw [Int.toNat_natCast] at hK hc
  have : xs.getD k x = x := by rw [List.getD_eq_getElem?_getD, hk]; rfl
  rw [this] at hK
  exact ⟨ad, c, e, hK, hc⟩
/-! type 101 -/
structure Rng where
  lo : Int
  hi : Int
deriving DecidableEq, Inhabited
def kRng : Kd Rng := Kd.iso (Kd.pair (Kd.int .i64) (Kd.int .i64)) (fun x => (x.lo, x.hi))
theorem kRng_open {w : World} {x : Rng} {cs : List Value} (h : kRng.K w x cs) : cs = [.int .i64 x.lo, .int .i64 x.hi] := by
  obtain ⟨_, _, rfl, rfl, rfl⟩ := h
  exact rfl
theorem kRng_mk (w : World) (x : Rng)  : kRng.K w x [.int .i64 x.lo, .int .i64 x.hi] := ⟨[.int .i64 x.lo], [.int .i64 x.hi], rfl, rfl, rfl⟩
theorem Rng.nth {w : World} {A : Option Addr} {n : Nat} {xs : List Rng} (h : kRng.C w A n xs) {k : Nat} {x : Rng} (hk : xs[k]? = some x) : ∃ ad , A = some ad ∧ w.cell? (ad.add (k * 2)) = some (.int .i64 x.lo) ∧ w.cell? ⟨(ad.add (k * 2)).block, (ad.add (k * 2)).off + 1, none⟩ = some (.int .i64 x.hi) := by
  obtain ⟨ad, c, e, hK, hc0⟩ := Kd.nth h hk
  have hc : ∀ j u, c[j]? = some u → w.cell? (ad.add (k * 2 + j)) = some u := hc0
  obtain rfl := kRng_open hK
  exact ⟨ad, e, hc 0 _ rfl, by rw [← add_field _ _ 1 (by omega)]; exact hc 1 _ rfl⟩
theorem info101 : (Tryz.prog.info? 101).map (fun i => (i.zero, i.size, i.bytes)) = some (some (.agg #[.int .i64 0, .int .i64 0]), 2, 16) := by kernel_rfl
/-! type 53 -/
structure Val where
  set : Bool
  n : Int
  s : (List Int)
deriving DecidableEq, Inhabited
def kVal : Kd Val := Kd.iso (Kd.pair Kd.bool (Kd.pair (Kd.int .i64) (Kd.slice 2 (Kd.int .i64)))) (fun x => (x.set, x.n, x.s))
theorem kVal_open {w : World} {x : Val} {cs : List Value} (h : kVal.K w x cs) : ∃ A2 c2, cs = [.bool x.set, .int .i64 x.n, .slice A2 x.s.length c2] ∧ x.s.length ≤ c2 ∧ (Kd.int .i64).C w A2 x.s.length x.s := by
  obtain ⟨_, _, rfl, rfl, ⟨_, _, rfl, rfl, ⟨A2, c2, rfl, l2, g2⟩⟩⟩ := h
  exact ⟨A2, c2, rfl, l2, g2⟩
theorem kVal_mk (w : World) (x : Val) {A2 : Option Addr} {c2 : Nat} (l2 : x.s.length ≤ c2) (g2 : (Kd.int .i64).C w A2 x.s.length x.s) : kVal.K w x [.bool x.set, .int .i64 x.n, .slice A2 x.s.length c2] := ⟨[.bool x.set], [.int .i64 x.n, .slice A2 x.s.length c2], rfl, rfl, ⟨[.int .i64 x.n], [.slice A2 x.s.length c2], rfl, rfl, ⟨A2, c2, rfl, l2, g2⟩⟩⟩
theorem Val.nth {w : World} {A : Option Addr} {n : Nat} {xs : List Val} (h : kVal.C w A n xs) {k : Nat} {x : Val} (hk : xs[k]? = some x) : ∃ ad A2 c2, A = some ad ∧ w.cell? (ad.add (k * 3)) = some (.bool x.set) ∧ w.cell? ⟨(ad.add (k * 3)).block, (ad.add (k * 3)).off + 1, none⟩ = some (.int .i64 x.n) ∧ w.cell? ⟨(ad.add (k * 3)).block, (ad.add (k * 3)).off + 2, none⟩ = some (.slice A2 x.s.length c2) ∧ x.s.length ≤ c2 ∧ (Kd.int .i64).C w A2 x.s.length x.s := by
  obtain ⟨ad, c, e, hK, hc0⟩ := Kd.nth h hk
  have hc : ∀ j u, c[j]? = some u → w.cell? (ad.add (k * 3 + j)) = some u := hc0
  obtain ⟨A2, c2, rfl, l2, g2⟩ := kVal_open hK
  exact ⟨ad, A2, c2, e, hc 0 _ rfl, by rw [← add_field _ _ 1 (by omega)]; exact hc 1 _ rfl, by rw [← add_field _ _ 2 (by omega)]; exact hc 2 _ rfl, l2, g2⟩
theorem info53 : (Tryz.prog.info? 53).map (fun i => (i.zero, i.size, i.bytes)) = some (some (.agg #[.bool false, .int .i64 0, .slice none 0 0]), 3, 40) := by kernel_rfl
/-! type 64 -/
structure Term where
  var : Int
  c : Val
deriving DecidableEq, Inhabited
def kTerm : Kd Term := Kd.iso (Kd.pair (Kd.int .i64) kVal) (fun x => (x.var, x.c))
theorem kTerm_open {w : World} {x : Term} {cs : List Value} (h : kTerm.K w x cs) : ∃ A3 c3, cs = [.int .i64 x.var, .bool x.c.set, .int .i64 x.c.n, .slice A3 x.c.s.length c3] ∧ x.c.s.length ≤ c3 ∧ (Kd.int .i64).C w A3 x.c.s.length x.c.s := by
  obtain ⟨_, _, rfl, rfl, ⟨_, _, rfl, rfl, ⟨_, _, rfl, rfl, ⟨A3, c3, rfl, l3, g3⟩⟩⟩⟩ := h
  exact ⟨A3, c3, rfl, l3, g3⟩
theorem kTerm_mk (w : World) (x : Term) {A3 : Option Addr} {c3 : Nat} (l3 : x.c.s.length ≤ c3) (g3 : (Kd.int .i64).C w A3 x.c.s.length x.c.s) : kTerm.K w x [.int .i64 x.var, .bool x.c.set, .int .i64 x.c.n, .slice A3 x.c.s.length c3] := ⟨[.int .i64 x.var], [.bool x.c.set, .int .i64 x.c.n, .slice A3 x.c.s.length c3], rfl, rfl, ⟨[.bool x.c.set], [.int .i64 x.c.n, .slice A3 x.c.s.length c3], rfl, rfl, ⟨[.int .i64 x.c.n], [.slice A3 x.c.s.length c3], rfl, rfl, ⟨A3, c3, rfl, l3, g3⟩⟩⟩⟩
theorem Term.nth {w : World} {A : Option Addr} {n : Nat} {xs : List Term} (h : kTerm.C w A n xs) {k : Nat} {x : Term} (hk : xs[k]? = some x) : ∃ ad A3 c3, A = some ad ∧ w.cell? (ad.add (k * 4)) = some (.int .i64 x.var) ∧ w.cell? ⟨(ad.add (k * 4)).block, (ad.add (k * 4)).off + 1, none⟩ = some (.bool x.c.set) ∧ w.cell? ⟨(ad.add (k * 4)).block, (ad.add (k * 4)).off + 2, none⟩ = some (.int .i64 x.c.n) ∧ w.cell? ⟨(ad.add (k * 4)).block, (ad.add (k * 4)).off + 3, none⟩ = some (.slice A3 x.c.s.length c3) ∧ x.c.s.length ≤ c3 ∧ (Kd.int .i64).C w A3 x.c.s.length x.c.s := by
  obtain ⟨ad, c, e, hK, hc0⟩ := Kd.nth h hk
  have hc : ∀ j u, c[j]? = some u → w.cell? (ad.add (k * 4 + j)) = some u := hc0
  obtain ⟨A3, c3, rfl, l3, g3⟩ := kTerm_open hK
  exact ⟨ad, A3, c3, e, hc 0 _ rfl, by rw [← add_field _ _ 1 (by omega)]; exact hc 1 _ rfl, by rw [← add_field _ _ 2 (by omega)]; exact hc 2 _ rfl, by rw [← add_field _ _ 3 (by omega)]; exact hc 3 _ rfl, l3, g3⟩
theorem info64 : (Tryz.prog.info? 64).map (fun i => (i.zero, i.size, i.bytes)) = some (some (.agg #[.int .i64 0, .bool false, .int .i64 0, .slice none 0 0]), 4, 48) := by kernel_rfl
/-! type 62 -/
structure Arg where
  array : Bool
  l : (List Term)
deriving DecidableEq, Inhabited
def kArg : Kd Arg := Kd.iso (Kd.pair Kd.bool (Kd.slice 64 kTerm)) (fun x => (x.array, x.l))
theorem kArg_open {w : World} {x : Arg} {cs : List Value} (h : kArg.K w x cs) : ∃ A1 c1, cs = [.bool x.array, .slice A1 x.l.length c1] ∧ x.l.length ≤ c1 ∧ kTerm.C w A1 x.l.length x.l := by
  obtain ⟨_, _, rfl, rfl, ⟨A1, c1, rfl, l1, g1⟩⟩ := h
  exact ⟨A1, c1, rfl, l1, g1⟩
theorem kArg_mk (w : World) (x : Arg) {A1 : Option Addr} {c1 : Nat} (l1 : x.l.length ≤ c1) (g1 : kTerm.C w A1 x.l.length x.l) : kArg.K w x [.bool x.array, .slice A1 x.l.length c1] := ⟨[.bool x.array], [.slice A1 x.l.length c1], rfl, rfl, ⟨A1, c1, rfl, l1, g1⟩⟩
theorem Arg.nth {w : World} {A : Option Addr} {n : Nat} {xs : List Arg} (h : kArg.C w A n xs) {k : Nat} {x : Arg} (hk : xs[k]? = some x) : ∃ ad A1 c1, A = some ad ∧ w.cell? (ad.add (k * 2)) = some (.bool x.array) ∧ w.cell? ⟨(ad.add (k * 2)).block, (ad.add (k * 2)).off + 1, none⟩ = some (.slice A1 x.l.length c1) ∧ x.l.length ≤ c1 ∧ kTerm.C w A1 x.l.length x.l := by
  obtain ⟨ad, c, e, hK, hc0⟩ := Kd.nth h hk
  have hc : ∀ j u, c[j]? = some u → w.cell? (ad.add (k * 2 + j)) = some u := hc0
  obtain ⟨A1, c1, rfl, l1, g1⟩ := kArg_open hK
  exact ⟨ad, A1, c1, e, hc 0 _ rfl, by rw [← add_field _ _ 1 (by omega)]; exact hc 1 _ rfl, l1, g1⟩
theorem info62 : (Tryz.prog.info? 62).map (fun i => (i.zero, i.size, i.bytes)) = some (some (.agg #[.bool false, .slice none 0 0]), 2, 32) := by kernel_rfl
/-! type 24 -/
structure Con where
  name : ByteArray
  args : (List Arg)
deriving DecidableEq, Inhabited
def kCon : Kd Con := Kd.iso (Kd.pair Kd.string (Kd.slice 62 kArg)) (fun x => (x.name, x.args))
theorem kCon_open {w : World} {x : Con} {cs : List Value} (h : kCon.K w x cs) : ∃ A1 c1, cs = [.string x.name, .slice A1 x.args.length c1] ∧ x.args.length ≤ c1 ∧ kArg.C w A1 x.args.length x.args := by
  obtain ⟨_, _, rfl, rfl, ⟨A1, c1, rfl, l1, g1⟩⟩ := h
  exact ⟨A1, c1, rfl, l1, g1⟩
theorem kCon_mk (w : World) (x : Con) {A1 : Option Addr} {c1 : Nat} (l1 : x.args.length ≤ c1) (g1 : kArg.C w A1 x.args.length x.args) : kCon.K w x [.string x.name, .slice A1 x.args.length c1] := ⟨[.string x.name], [.slice A1 x.args.length c1], rfl, rfl, ⟨A1, c1, rfl, l1, g1⟩⟩
theorem Con.nth {w : World} {A : Option Addr} {n : Nat} {xs : List Con} (h : kCon.C w A n xs) {k : Nat} {x : Con} (hk : xs[k]? = some x) : ∃ ad A1 c1, A = some ad ∧ w.cell? (ad.add (k * 2)) = some (.string x.name) ∧ w.cell? ⟨(ad.add (k * 2)).block, (ad.add (k * 2)).off + 1, none⟩ = some (.slice A1 x.args.length c1) ∧ x.args.length ≤ c1 ∧ kArg.C w A1 x.args.length x.args := by
  obtain ⟨ad, c, e, hK, hc0⟩ := Kd.nth h hk
  have hc : ∀ j u, c[j]? = some u → w.cell? (ad.add (k * 2 + j)) = some u := hc0
  obtain ⟨A1, c1, rfl, l1, g1⟩ := kCon_open hK
  exact ⟨ad, A1, c1, e, hc 0 _ rfl, by rw [← add_field _ _ 1 (by omega)]; exact hc 1 _ rfl, l1, g1⟩
theorem info24 : (Tryz.prog.info? 24).map (fun i => (i.zero, i.size, i.bytes)) = some (some (.agg #[.string ⟨#[]⟩, .slice none 0 0]), 2, 40) := by kernel_rfl
/-! type 49 -/
structure Dom where
  set : Bool
  r : (List Rng)
  lo : (List Int)
  up : (List Int)
  least : Int
  most : Int
deriving DecidableEq, Inhabited
def kDom : Kd Dom := Kd.iso (Kd.pair Kd.bool (Kd.pair (Kd.slice 101 kRng) (Kd.pair (Kd.slice 2 (Kd.int .i64)) (Kd.pair (Kd.slice 2 (Kd.int .i64)) (Kd.pair (Kd.int .i64) (Kd.int .i64)))))) (fun x => (x.set, x.r, x.lo, x.up, x.least, x.most))
theorem kDom_open {w : World} {x : Dom} {cs : List Value} (h : kDom.K w x cs) : ∃ A1 c1 A2 c2 A3 c3, cs = [.bool x.set, .slice A1 x.r.length c1, .slice A2 x.lo.length c2, .slice A3 x.up.length c3, .int .i64 x.least, .int .i64 x.most] ∧ x.r.length ≤ c1 ∧ kRng.C w A1 x.r.length x.r ∧ x.lo.length ≤ c2 ∧ (Kd.int .i64).C w A2 x.lo.length x.lo ∧ x.up.length ≤ c3 ∧ (Kd.int .i64).C w A3 x.up.length x.up := by
  obtain ⟨_, _, rfl, rfl, ⟨_, _, rfl, ⟨A1, c1, rfl, l1, g1⟩, ⟨_, _, rfl, ⟨A2, c2, rfl, l2, g2⟩, ⟨_, _, rfl, ⟨A3, c3, rfl, l3, g3⟩, ⟨_, _, rfl, rfl, rfl⟩⟩⟩⟩⟩ := h
  exact ⟨A1, c1, A2, c2, A3, c3, rfl, l1, g1, l2, g2, l3, g3⟩
theorem kDom_mk (w : World) (x : Dom) {A1 : Option Addr} {c1 : Nat} (l1 : x.r.length ≤ c1) (g1 : kRng.C w A1 x.r.length x.r) {A2 : Option Addr} {c2 : Nat} (l2 : x.lo.length ≤ c2) (g2 : (Kd.int .i64).C w A2 x.lo.length x.lo) {A3 : Option Addr} {c3 : Nat} (l3 : x.up.length ≤ c3) (g3 : (Kd.int .i64).C w A3 x.up.length x.up) : kDom.K w x [.bool x.set, .slice A1 x.r.length c1, .slice A2 x.lo.length c2, .slice A3 x.up.length c3, .int .i64 x.least, .int .i64 x.most] := ⟨[.bool x.set], [.slice A1 x.r.length c1, .slice A2 x.lo.length c2, .slice A3 x.up.length c3, .int .i64 x.least, .int .i64 x.most], rfl, rfl, ⟨[.slice A1 x.r.length c1], [.slice A2 x.lo.length c2, .slice A3 x.up.length c3, .int .i64 x.least, .int .i64 x.most], rfl, ⟨A1, c1, rfl, l1, g1⟩, ⟨[.slice A2 x.lo.length c2], [.slice A3 x.up.length c3, .int .i64 x.least, .int .i64 x.most], rfl, ⟨A2, c2, rfl, l2, g2⟩, ⟨[.slice A3 x.up.length c3], [.int .i64 x.least, .int .i64 x.most], rfl, ⟨A3, c3, rfl, l3, g3⟩, ⟨[.int .i64 x.least], [.int .i64 x.most], rfl, rfl, rfl⟩⟩⟩⟩⟩
theorem Dom.nth {w : World} {A : Option Addr} {n : Nat} {xs : List Dom} (h : kDom.C w A n xs) {k : Nat} {x : Dom} (hk : xs[k]? = some x) : ∃ ad A1 c1 A2 c2 A3 c3, A = some ad ∧ w.cell? (ad.add (k * 6)) = some (.bool x.set) ∧ w.cell? ⟨(ad.add (k * 6)).block, (ad.add (k * 6)).off + 1, none⟩ = some (.slice A1 x.r.length c1) ∧ w.cell? ⟨(ad.add (k * 6)).block, (ad.add (k * 6)).off + 2, none⟩ = some (.slice A2 x.lo.length c2) ∧ w.cell? ⟨(ad.add (k * 6)).block, (ad.add (k * 6)).off + 3, none⟩ = some (.slice A3 x.up.length c3) ∧ w.cell? ⟨(ad.add (k * 6)).block, (ad.add (k * 6)).off + 4, none⟩ = some (.int .i64 x.least) ∧ w.cell? ⟨(ad.add (k * 6)).block, (ad.add (k * 6)).off + 5, none⟩ = some (.int .i64 x.most) ∧ x.r.length ≤ c1 ∧ kRng.C w A1 x.r.length x.r ∧ x.lo.length ≤ c2 ∧ (Kd.int .i64).C w A2 x.lo.length x.lo ∧ x.up.length ≤ c3 ∧ (Kd.int .i64).C w A3 x.up.length x.up := by
  obtain ⟨ad, c, e, hK, hc0⟩ := Kd.nth h hk
  have hc : ∀ j u, c[j]? = some u → w.cell? (ad.add (k * 6 + j)) = some u := hc0
  obtain ⟨A1, c1, A2, c2, A3, c3, rfl, l1, g1, l2, g2, l3, g3⟩ := kDom_open hK
  exact ⟨ad, A1, c1, A2, c2, A3, c3, e, hc 0 _ rfl, by rw [← add_field _ _ 1 (by omega)]; exact hc 1 _ rfl, by rw [← add_field _ _ 2 (by omega)]; exact hc 2 _ rfl, by rw [← add_field _ _ 3 (by omega)]; exact hc 3 _ rfl, by rw [← add_field _ _ 4 (by omega)]; exact hc 4 _ rfl, by rw [← add_field _ _ 5 (by omega)]; exact hc 5 _ rfl, l1, g1, l2, g2, l3, g3⟩
theorem info49 : (Tryz.prog.info? 49).map (fun i => (i.zero, i.size, i.bytes)) = some (some (.agg #[.bool false, .slice none 0 0, .slice none 0 0, .slice none 0 0, .int .i64 0, .int .i64 0]), 6, 96) := by kernel_rfl
/-! type 197 -/
structure Big where
  minus : Bool
  d : (List Int)
deriving DecidableEq, Inhabited
def kBig : Kd Big := Kd.iso (Kd.pair Kd.bool (Kd.slice 2 (Kd.int .i64))) (fun x => (x.minus, x.d))
theorem kBig_open {w : World} {x : Big} {cs : List Value} (h : kBig.K w x cs) : ∃ A1 c1, cs = [.bool x.minus, .slice A1 x.d.length c1] ∧ x.d.length ≤ c1 ∧ (Kd.int .i64).C w A1 x.d.length x.d := by
  obtain ⟨_, _, rfl, rfl, ⟨A1, c1, rfl, l1, g1⟩⟩ := h
  exact ⟨A1, c1, rfl, l1, g1⟩
theorem kBig_mk (w : World) (x : Big) {A1 : Option Addr} {c1 : Nat} (l1 : x.d.length ≤ c1) (g1 : (Kd.int .i64).C w A1 x.d.length x.d) : kBig.K w x [.bool x.minus, .slice A1 x.d.length c1] := ⟨[.bool x.minus], [.slice A1 x.d.length c1], rfl, rfl, ⟨A1, c1, rfl, l1, g1⟩⟩
theorem Big.nth {w : World} {A : Option Addr} {n : Nat} {xs : List Big} (h : kBig.C w A n xs) {k : Nat} {x : Big} (hk : xs[k]? = some x) : ∃ ad A1 c1, A = some ad ∧ w.cell? (ad.add (k * 2)) = some (.bool x.minus) ∧ w.cell? ⟨(ad.add (k * 2)).block, (ad.add (k * 2)).off + 1, none⟩ = some (.slice A1 x.d.length c1) ∧ x.d.length ≤ c1 ∧ (Kd.int .i64).C w A1 x.d.length x.d := by
  obtain ⟨ad, c, e, hK, hc0⟩ := Kd.nth h hk
  have hc : ∀ j u, c[j]? = some u → w.cell? (ad.add (k * 2 + j)) = some u := hc0
  obtain ⟨A1, c1, rfl, l1, g1⟩ := kBig_open hK
  exact ⟨ad, A1, c1, e, hc 0 _ rfl, by rw [← add_field _ _ 1 (by omega)]; exact hc 1 _ rfl, l1, g1⟩
theorem info197 : (Tryz.prog.info? 197).map (fun i => (i.zero, i.size, i.bytes)) = some (some (.agg #[.bool false, .slice none 0 0]), 2, 32) := by kernel_rfl
/-! type 138 -/
structure Row where
  name : ByteArray
  form : ByteArray
  family : ByteArray
deriving DecidableEq, Inhabited
def kRow : Kd Row := Kd.iso (Kd.pair Kd.string (Kd.pair Kd.string Kd.string)) (fun x => (x.name, x.form, x.family))
theorem kRow_open {w : World} {x : Row} {cs : List Value} (h : kRow.K w x cs) : cs = [.string x.name, .string x.form, .string x.family] := by
  obtain ⟨_, _, rfl, rfl, ⟨_, _, rfl, rfl, rfl⟩⟩ := h
  exact rfl
theorem kRow_mk (w : World) (x : Row)  : kRow.K w x [.string x.name, .string x.form, .string x.family] := ⟨[.string x.name], [.string x.form, .string x.family], rfl, rfl, ⟨[.string x.form], [.string x.family], rfl, rfl, rfl⟩⟩
theorem Row.nth {w : World} {A : Option Addr} {n : Nat} {xs : List Row} (h : kRow.C w A n xs) {k : Nat} {x : Row} (hk : xs[k]? = some x) : ∃ ad , A = some ad ∧ w.cell? (ad.add (k * 3)) = some (.string x.name) ∧ w.cell? ⟨(ad.add (k * 3)).block, (ad.add (k * 3)).off + 1, none⟩ = some (.string x.form) ∧ w.cell? ⟨(ad.add (k * 3)).block, (ad.add (k * 3)).off + 2, none⟩ = some (.string x.family) := by
  obtain ⟨ad, c, e, hK, hc0⟩ := Kd.nth h hk
  have hc : ∀ j u, c[j]? = some u → w.cell? (ad.add (k * 3 + j)) = some u := hc0
  obtain rfl := kRow_open hK
  exact ⟨ad, e, hc 0 _ rfl, by rw [← add_field _ _ 1 (by omega)]; exact hc 1 _ rfl, by rw [← add_field _ _ 2 (by omega)]; exact hc 2 _ rfl⟩
theorem info138 : (Tryz.prog.info? 138).map (fun i => (i.zero, i.size, i.bytes)) = some (some (.agg #[.string ⟨#[]⟩, .string ⟨#[]⟩, .string ⟨#[]⟩]), 3, 48) := by kernel_rfl

theorem info2 : (Tryz.prog.info? 2).map (fun i => (i.zero, i.size, i.bytes)) = some (some (.int .i64 0), 1, 8) := by kernel_rfl
theorem info3 : (Tryz.prog.info? 3).map (fun i => (i.zero, i.size, i.bytes)) = some (some (.int .i64 0), 1, 8) := by kernel_rfl
theorem info4 : (Tryz.prog.info? 4).map (fun i => (i.zero, i.size, i.bytes)) = some (some (.bool false), 1, 1) := by kernel_rfl
theorem info9 : (Tryz.prog.info? 9).map (fun i => (i.zero, i.size, i.bytes)) = some (some (.string ⟨#[]⟩), 1, 16) := by kernel_rfl
theorem Int.nth {kd : IntKind} {w : World} {A : Option Addr} {n : Nat} {xs : List Int} (h : (Kd.int kd).C w A n xs) {k : Nat} {x : Int} (hk : xs[k]? = some x) : ∃ ad, A = some ad ∧ w.cell? (ad.add k) = some (.int kd x) := by
  obtain ⟨ad, c, e, hK, hc0⟩ := Kd.nth h hk
  have hc : ∀ j u, c[j]? = some u → w.cell? (ad.add (k * 1 + j)) = some u := hc0
  obtain rfl : c = [.int kd x] := hK
  exact ⟨ad, e, by have := hc 0 _ rfl; rwa [Nat.mul_one, Nat.add_zero] at this⟩
theorem Bool.nth {w : World} {A : Option Addr} {n : Nat} {xs : List Bool} (h : Kd.bool.C w A n xs) {k : Nat} {x : Bool} (hk : xs[k]? = some x) : ∃ ad, A = some ad ∧ w.cell? (ad.add k) = some (.bool x) := by
  obtain ⟨ad, c, e, hK, hc0⟩ := Kd.nth h hk
  have hc : ∀ j u, c[j]? = some u → w.cell? (ad.add (k * 1 + j)) = some u := hc0
  obtain rfl : c = [.bool x] := hK
  exact ⟨ad, e, by have := hc 0 _ rfl; rwa [Nat.mul_one, Nat.add_zero] at this⟩
theorem Str.nth {w : World} {A : Option Addr} {n : Nat} {xs : List ByteArray} (h : Kd.string.C w A n xs) {k : Nat} {x : ByteArray} (hk : xs[k]? = some x) : ∃ ad, A = some ad ∧ w.cell? (ad.add k) = some (.string x) := by
  obtain ⟨ad, c, e, hK, hc0⟩ := Kd.nth h hk
  have hc : ∀ j u, c[j]? = some u → w.cell? (ad.add (k * 1 + j)) = some u := hc0
  obtain rfl : c = [.string x] := hK
  exact ⟨ad, e, by have := hc 0 _ rfl; rwa [Nat.mul_one, Nat.add_zero] at this⟩
theorem Sl.nth {α : Type} {e : Nat} {d : Kd α} {w : World} {A : Option Addr} {n : Nat} {xs : List (List α)} (h : (Kd.slice e d).C w A n xs) {k : Nat} {x : List α} (hk : xs[k]? = some x) : ∃ ad A0 c0, A = some ad ∧ w.cell? (ad.add k) = some (.slice A0 x.length c0) ∧ x.length ≤ c0 ∧ d.C w A0 x.length x := by
  obtain ⟨ad, c, e, hK, hc0⟩ := Kd.nth h hk
  have hc : ∀ j u, c[j]? = some u → w.cell? (ad.add (k * 1 + j)) = some u := hc0
  obtain ⟨A0, c0, rfl, l0, g0⟩ := hK
  exact ⟨ad, A0, c0, e, by have := hc 0 _ rfl; rwa [Nat.mul_one, Nat.add_zero] at this, l0, g0⟩
theorem drop_at {α : Type} {l : List α} {k : Nat} {x : α} (h : l[k]? = some x) : l.drop k = x :: l.drop (k + 1) := by
  obtain ⟨hlt, rfl⟩ := List.getElem?_eq_some_iff.1 h
  exact List.drop_eq_getElem_cons hlt
theorem cell_now {w w1 : World} (hb : Below w.heap.size w w1) {a : Addr} {v : Value} (h : w.cell? a = some v) : w1.cell? a = some v := pw_cell_below hb h

/-- What was there when the call began is as it was. -/
class Bel (w w' : World) : Prop where
  out : Below w.heap.size w w'
instance Bel.refl (w : World) : Bel w w := ⟨Below.refl _ _⟩
instance Bel.alloc (w W : World) (o : Obj) [h : Bel w W] : Bel w (W.alloc o) := ⟨below_alloc h.out o⟩
instance Bel.drew (w W : World) [h : Bel w W] : Bel w W.drew := ⟨below_drew h.out⟩
instance Bel.drewN (w W : World) (n : Nat) [h : Bel w W] : Bel w (W.drewN n) := ⟨pw_below_drewN h.out n⟩
theorem Bel.trans {a b c : World} (h : Bel a b) (k : Bel b c) : Bel a c := ⟨below_then h.out h.out.size k.out⟩
theorem Bel.cell {w w1 : World} (hb : Bel w w1) {a : Addr} {v : Value} (h : w.cell? a = some v) : w1.cell? a = some v := pw_cell_below hb.out h
theorem Kd.now {α : Type} {d : Kd α} {w w1 : World} {A : Option Addr} {n : Nat} {xs : List α} (h : d.C w A n xs) (hb : Bel w w1) : d.C w1 A n xs := Kd.C_below h hb.out
theorem ret_b {a b : Bool} (h : a = b) : Ending.returned (.bool a) = .returned (.bool b) := by rw [h]
theorem ret_i {k : IntKind} {a b : Int} (h : a = b) : Ending.returned (.int k a) = .returned (.int k b) := by rw [h]
end Go.Proofs.YtkdedpofghlmoaaGreatDoor
