/- Values whose sets lie in memory that was there before, and rows of such values and of rows of them. No statement is proved here. -/
import Derived.Test.YtkdedpofghlmoaaGreatDoorK3
set_option linter.unusedVariables false
set_option linter.unusedSimpArgs false
namespace Go.Proofs.YtkdedpofghlmoaaGreatDoor
open Go.RowKit Go.Proofs.YtkdedpofghlmoaaGreatDoorW.PrintWords
theorem Acc.nilB {α : Type} {d : Kd α} {e : Nat} {w0 W : World} (hb : Bel w0 W) : Acc d e w0 W (.slice none 0 0) ([] : List α) := ⟨Kd.R_nil _ _ _ _ _, hb⟩
/-- A slice into memory that was there in world u. -/
def kOld {α : Type} (u : World) (d : Kd α) : Kd (List α) where
  sz := 1
  E := []
  K := fun _ xs cs => ∃ A c, cs = [.slice A xs.length c] ∧ xs.length ≤ c ∧ d.C u A xs.length xs
  M := fun _ _ _ xs cs => ∃ A c, cs = [.slice A xs.length c] ∧ xs.length ≤ c ∧ d.C u A xs.length xs
  K_len := by
    rintro w x cs ⟨A, c, rfl, _⟩
    rfl
  K_one := by
    rintro w x cs ⟨A, c, rfl, _⟩ u hu
    rw [List.mem_singleton.1 hu]
    rfl
  K_below := fun _ h => h
  K_of_M := fun h => h
  M_mono := fun _ h => h
  M_bound := fun h => h
  M_move := fun _ h => h
  M_lower := fun _ h => h
def kValO (u : World) : Kd Val := Kd.iso (Kd.pair Kd.bool (Kd.pair (Kd.int .i64) (kOld u (Kd.int .i64)))) (fun x => (x.set, x.n, x.s))
theorem kValO_open {u w : World} {x : Val} {cs : List Value} (h : (kValO u).K w x cs) : ∃ A2 c2, cs = [.bool x.set, .int .i64 x.n, .slice A2 x.s.length c2] ∧ x.s.length ≤ c2 ∧ (Kd.int .i64).C u A2 x.s.length x.s := by
  obtain ⟨_, _, rfl, rfl, ⟨_, _, rfl, rfl, ⟨A2, c2, rfl, l2, g2⟩⟩⟩ := h
  exact ⟨A2, c2, rfl, l2, g2⟩
theorem kValO_M (u w : World) (base : Nat) (ok : Nat → Prop) (x : Val) {A2 : Option Addr} {c2 : Nat} (l2 : x.s.length ≤ c2) (g2 : (Kd.int .i64).C u A2 x.s.length x.s) : (kValO u).M w base ok x [.bool x.set, .int .i64 x.n, .slice A2 x.s.length c2] := ⟨[.bool x.set], [.int .i64 x.n, .slice A2 x.s.length c2], rfl, rfl, ⟨[.int .i64 x.n], [.slice A2 x.s.length c2], rfl, rfl, ⟨A2, c2, rfl, l2, g2⟩⟩⟩
theorem kValO_now {u w : World} {x : Val} {cs : List Value} (h : (kValO u).K w x cs) (hb : Bel u w) : kVal.K w x cs := by
  obtain ⟨A, c, rfl, h1, h2⟩ := kValO_open h
  exact kVal_mk w x h1 (Kd.now h2 hb)
theorem kValO_C {u w : World} {A : Option Addr} {n : Nat} {xs : List Val} (h : (kValO u).C w A n xs) (hb : Bel u w) : kVal.C w A n xs := by
  refine ReadsRow.imp_ h (Below.refl _ _) (fun x cs hp => kValO_now hp hb)
theorem kRowO_C {u w : World} {A : Option Addr} {n : Nat} {xs : List (List Val)} (h : (Kd.slice 53 (kValO u)).C w A n xs) (hb : Bel u w) : (Kd.slice 53 kVal).C w A n xs := by
  refine ReadsRow.imp_ h (Below.refl _ _) ?_
  rintro x cs ⟨A, c, rfl, h1, h2⟩
  exact ⟨A, c, rfl, h1, kValO_C h2 hb⟩
abbrev AccV (u w0 W : World) (v : Value) (xs : List Val) : Prop := Acc (kValO u) 53 w0 W v xs
theorem AccV.app {u w0 Wr W : World} {v : Value} {xs : List Val} (HO : AccV u w0 Wr v xs) {y : Val} {A2 : Option Addr} {c2 : Nat} {ops : Array Oper} {rest : List Oper} {o : Oper} {a : Act} {Q : Exit → Act → World → Prop} {s x : Operand}
    (hgd : o.guard = none) (ho : o.op = .call { callee := .builtin .append, args := #[s, x], argTypes := #[25, 25] }) (hs : a.eval s = v) {n : Nat} (hx : a.eval x = .slice (some ⟨n, 0, none⟩) 1 1) (hn : W.heap.size = n)
    (hB : Bel Wr W) (l2 : y.s.length ≤ c2) (g2 : (Kd.int .i64).C u A2 y.s.length y.s) (hl : xs.length + 1 ≤ 3518437208883)
    (h : ∀ v1 w1, AccV u w0 w1 v1 (xs ++ [y]) → (∀ b o u, Wr.heap.size ≤ b → W.cell? ⟨b, o, none⟩ = some u → w1.cell? ⟨b, o, none⟩ = some u) → wpList Tryz.prog ops Q rest (a.put o.dst v1) w1) :
    wpList Tryz.prog ops Q (o :: rest) a (W.alloc (.cells #[.bool y.set, .int .i64 y.n, .slice A2 y.s.length c2] 53)) :=
  Acc.app HO (bytes := 40) (z := .agg #[.bool false, .int .i64 0, .slice none 0 0]) (p := y) (cs := [.bool y.set, .int .i64 y.n, .slice A2 y.s.length c2]) Tryz.underlying25 info53 rfl (Nat.succ_pos 2) (by decide) hgd ho hs hx hn hB (kValO_M _ _ _ _ y l2 g2) (by omega) (fun v1 w1 h1 hg => h v1 w1 h1 (fun b o u => HO.kept hB hg b o u))
abbrev AccVV (u w0 W : World) (v : Value) (xs : List (List Val)) : Prop := Acc (Kd.slice 53 (kValO u)) 25 w0 W v xs
theorem info25 : (Tryz.prog.info? 25).map (fun i => (i.zero, i.size, i.bytes)) = some (some (.slice none 0 0), 1, 24) := by kernel_rfl
theorem AccVV.app {u w0 wr0 Wr W : World} {v : Value} {xs : List (List Val)} (HO : AccVV u w0 wr0 v xs) {ys : List Val} {vi : Value} (HI : AccV u wr0 Wr vi ys) {ops : Array Oper} {rest : List Oper} {o : Oper} {a : Act} {Q : Exit → Act → World → Prop} {s x : Operand}
    (hgd : o.guard = none) (ho : o.op = .call { callee := .builtin .append, args := #[s, x], argTypes := #[39, 39] }) (hs : a.eval s = v) {n : Nat} (hx : a.eval x = .slice (some ⟨n, 0, none⟩) 1 1) (hn : W.heap.size = n)
    (hB : Bel Wr W) (hB2 : Bel Wr (W.alloc (.cells #[vi] 25))) (hl : xs.length + 1 ≤ 5864062014805)
    (h : ∀ v1 w1, AccVV u w0 w1 v1 (xs ++ [ys]) → (∀ b o u, Wr.heap.size ≤ b → W.cell? ⟨b, o, none⟩ = some u → w1.cell? ⟨b, o, none⟩ = some u) → wpList Tryz.prog ops Q rest (a.put o.dst v1) w1) :
    wpList Tryz.prog ops Q (o :: rest) a (W.alloc (.cells #[vi] 25)) := by
  have hM : (Kd.slice 53 (kValO u)).M W w0.heap.size (fun k => some k ≠ v.ownBlock) ys [vi] := by
    refine ⟨vi, rfl, Kd.R_lower (Kd.R_mono (Kd.R_bound (Kd.R_below HI.own hB.out)) ?_) HO.bel.out.size⟩
    rintro k ⟨_, hk, _⟩ e
    obtain ⟨inner, hw⟩ := Kd.R_own HO.own
    have := own_lt hw k e.symm
    omega
  exact Acc.app (HO.later HI.bel) (bytes := 24) (z := .slice none 0 0) (p := ys) (cs := [vi]) Tryz.underlying39 info25 rfl Nat.one_pos (by decide) hgd ho hs hx hn hB hM (by omega) (fun v1 w1 h1 hg => h v1 w1 h1 (fun b o u => (HO.later HI.bel).kept hB hg b o u))
end Go.Proofs.YtkdedpofghlmoaaGreatDoor
