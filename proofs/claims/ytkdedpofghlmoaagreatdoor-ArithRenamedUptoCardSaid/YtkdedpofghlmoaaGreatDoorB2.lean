/- Append at slices of whole numbers, truths and texts. No statement is proved here. -/
import Derived.Test.YtkdedpofghlmoaaGreatDoorB1
set_option linter.unusedVariables false
set_option linter.unusedSimpArgs false
namespace Go.Proofs.YtkdedpofghlmoaaGreatDoor
open Go.RowKit Go.Proofs.YtkdedpofghlmoaaGreatDoorW.PrintWords

abbrev AccI (w0 W : World) (v : Value) (xs : List Int) : Prop := Acc (Kd.int .i64) 2 w0 W v xs
theorem AccI.app {w0 Wr W : World} {v : Value} {xs : List Int} (HO : AccI w0 Wr v xs) {y : Int} {ops : Array Oper} {rest : List Oper} {o : Oper} {a : Act} {Q : Exit → Act → World → Prop} {s x : Operand}
    (hgd : o.guard = none) (ho : o.op = .call { callee := .builtin .append, args := #[s, x], argTypes := #[47, 47] }) (hs : a.eval s = v) {n : Nat} (hx : a.eval x = .slice (some ⟨n, 0, none⟩) 1 1) (hn : W.heap.size = n)
    (hB : Bel Wr W) (hl : (xs.length + 1) * 8 ≤ 140737488355328)
    (h : ∀ v1 w1, AccI w0 w1 v1 (xs ++ [y]) → (∀ b o u, Wr.heap.size ≤ b → W.cell? ⟨b, o, none⟩ = some u → w1.cell? ⟨b, o, none⟩ = some u) → wpList Tryz.prog ops Q rest (a.put o.dst v1) w1) :
    wpList Tryz.prog ops Q (o :: rest) a (W.alloc (.cells #[.int .i64 y] 2)) :=
  Acc.app HO (bytes := 8) (z := .int .i64 0) (p := y) (cs := [.int .i64 y]) Tryz.underlying47 info2 rfl Nat.one_pos (by decide) hgd ho hs hx hn hB rfl hl (fun v1 w1 h1 hg => h v1 w1 h1 (fun b o u => HO.kept hB hg b o u))
theorem AccI.appRow {w0 Wr W : World} {v : Value} {xs ys : List Int} (HO : AccI w0 Wr v xs) {A : Option Addr} {m c : Nat} {ops : Array Oper} {rest : List Oper} {o : Oper} {a : Act} {Q : Exit → Act → World → Prop} {s x : Operand}
    (hgd : o.guard = none) (ho : o.op = .call { callee := .builtin .append, args := #[s, x], argTypes := #[47, 47] }) (hs : a.eval s = v) (hx : a.eval x = .slice A m c)
    (hB : Bel Wr W) (hC : (Kd.int .i64).C W A m ys) (hl : (xs.length + m) * 8 ≤ 140737488355328)
    (h : ∀ v1 w1, AccI w0 w1 v1 (xs ++ ys) → (∀ b o u, Wr.heap.size ≤ b → W.cell? ⟨b, o, none⟩ = some u → w1.cell? ⟨b, o, none⟩ = some u) → wpList Tryz.prog ops Q rest (a.put o.dst v1) w1) :
    wpList Tryz.prog ops Q (o :: rest) a W :=
  Acc.appRow HO (bytes := 8) (z := .int .i64 0) Tryz.underlying47 info2 rfl Nat.one_pos (by decide) hgd ho hs hx hB hC (fun _ _ h => h) hl (fun v1 w1 h1 hg => h v1 w1 h1 (fun b o u => HO.kept hB hg b o u))
theorem lit_I (w W : World) [hb : Bel w W] (y : Int) : (Kd.int .i64).C (W.alloc (.cells #[.int .i64 y] 2)) (some ⟨W.heap.size, 0, none⟩) 1 [y] :=
  (Acc.lit1 (d := Kd.int .i64) (e := 2) (x := y) (cs := [.int .i64 y]) hb rfl).C.2.2

abbrev AccN (w0 W : World) (v : Value) (xs : List Int) : Prop := Acc (Kd.int .i64) 3 w0 W v xs
theorem AccN.app {w0 Wr W : World} {v : Value} {xs : List Int} (HO : AccN w0 Wr v xs) {y : Int} {ops : Array Oper} {rest : List Oper} {o : Oper} {a : Act} {Q : Exit → Act → World → Prop} {s x : Operand}
    (hgd : o.guard = none) (ho : o.op = .call { callee := .builtin .append, args := #[s, x], argTypes := #[65, 65] }) (hs : a.eval s = v) {n : Nat} (hx : a.eval x = .slice (some ⟨n, 0, none⟩) 1 1) (hn : W.heap.size = n)
    (hB : Bel Wr W) (hl : (xs.length + 1) * 8 ≤ 140737488355328)
    (h : ∀ v1 w1, AccN w0 w1 v1 (xs ++ [y]) → (∀ b o u, Wr.heap.size ≤ b → W.cell? ⟨b, o, none⟩ = some u → w1.cell? ⟨b, o, none⟩ = some u) → wpList Tryz.prog ops Q rest (a.put o.dst v1) w1) :
    wpList Tryz.prog ops Q (o :: rest) a (W.alloc (.cells #[.int .i64 y] 3)) :=
  Acc.app HO (bytes := 8) (z := .int .i64 0) (p := y) (cs := [.int .i64 y]) Tryz.underlying65 info3 rfl Nat.one_pos (by decide) hgd ho hs hx hn hB rfl hl (fun v1 w1 h1 hg => h v1 w1 h1 (fun b o u => HO.kept hB hg b o u))
theorem AccN.appRow {w0 Wr W : World} {v : Value} {xs ys : List Int} (HO : AccN w0 Wr v xs) {A : Option Addr} {m c : Nat} {ops : Array Oper} {rest : List Oper} {o : Oper} {a : Act} {Q : Exit → Act → World → Prop} {s x : Operand}
    (hgd : o.guard = none) (ho : o.op = .call { callee := .builtin .append, args := #[s, x], argTypes := #[65, 65] }) (hs : a.eval s = v) (hx : a.eval x = .slice A m c)
    (hB : Bel Wr W) (hC : (Kd.int .i64).C W A m ys) (hl : (xs.length + m) * 8 ≤ 140737488355328)
    (h : ∀ v1 w1, AccN w0 w1 v1 (xs ++ ys) → (∀ b o u, Wr.heap.size ≤ b → W.cell? ⟨b, o, none⟩ = some u → w1.cell? ⟨b, o, none⟩ = some u) → wpList Tryz.prog ops Q rest (a.put o.dst v1) w1) :
    wpList Tryz.prog ops Q (o :: rest) a W :=
  Acc.appRow HO (bytes := 8) (z := .int .i64 0) Tryz.underlying65 info3 rfl Nat.one_pos (by decide) hgd ho hs hx hB hC (fun _ _ h => h) hl (fun v1 w1 h1 hg => h v1 w1 h1 (fun b o u => HO.kept hB hg b o u))
theorem lit_N (w W : World) [hb : Bel w W] (y : Int) : (Kd.int .i64).C (W.alloc (.cells #[.int .i64 y] 3)) (some ⟨W.heap.size, 0, none⟩) 1 [y] :=
  (Acc.lit1 (d := Kd.int .i64) (e := 3) (x := y) (cs := [.int .i64 y]) hb rfl).C.2.2

abbrev AccB (w0 W : World) (v : Value) (xs : List Bool) : Prop := Acc (Kd.bool) 4 w0 W v xs
theorem AccB.app {w0 Wr W : World} {v : Value} {xs : List Bool} (HO : AccB w0 Wr v xs) {y : Bool} {ops : Array Oper} {rest : List Oper} {o : Oper} {a : Act} {Q : Exit → Act → World → Prop} {s x : Operand}
    (hgd : o.guard = none) (ho : o.op = .call { callee := .builtin .append, args := #[s, x], argTypes := #[92, 92] }) (hs : a.eval s = v) {n : Nat} (hx : a.eval x = .slice (some ⟨n, 0, none⟩) 1 1) (hn : W.heap.size = n)
    (hB : Bel Wr W) (hl : (xs.length + 1) * 1 ≤ 140737488355328)
    (h : ∀ v1 w1, AccB w0 w1 v1 (xs ++ [y]) → (∀ b o u, Wr.heap.size ≤ b → W.cell? ⟨b, o, none⟩ = some u → w1.cell? ⟨b, o, none⟩ = some u) → wpList Tryz.prog ops Q rest (a.put o.dst v1) w1) :
    wpList Tryz.prog ops Q (o :: rest) a (W.alloc (.cells #[.bool y] 4)) :=
  Acc.app HO (bytes := 1) (z := .bool false) (p := y) (cs := [.bool y]) Tryz.underlying92 info4 rfl Nat.one_pos (by decide) hgd ho hs hx hn hB rfl hl (fun v1 w1 h1 hg => h v1 w1 h1 (fun b o u => HO.kept hB hg b o u))
theorem AccB.appRow {w0 Wr W : World} {v : Value} {xs ys : List Bool} (HO : AccB w0 Wr v xs) {A : Option Addr} {m c : Nat} {ops : Array Oper} {rest : List Oper} {o : Oper} {a : Act} {Q : Exit → Act → World → Prop} {s x : Operand}
    (hgd : o.guard = none) (ho : o.op = .call { callee := .builtin .append, args := #[s, x], argTypes := #[92, 92] }) (hs : a.eval s = v) (hx : a.eval x = .slice A m c)
    (hB : Bel Wr W) (hC : (Kd.bool).C W A m ys) (hl : (xs.length + m) * 1 ≤ 140737488355328)
    (h : ∀ v1 w1, AccB w0 w1 v1 (xs ++ ys) → (∀ b o u, Wr.heap.size ≤ b → W.cell? ⟨b, o, none⟩ = some u → w1.cell? ⟨b, o, none⟩ = some u) → wpList Tryz.prog ops Q rest (a.put o.dst v1) w1) :
    wpList Tryz.prog ops Q (o :: rest) a W :=
  Acc.appRow HO (bytes := 1) (z := .bool false) Tryz.underlying92 info4 rfl Nat.one_pos (by decide) hgd ho hs hx hB hC (fun _ _ h => h) hl (fun v1 w1 h1 hg => h v1 w1 h1 (fun b o u => HO.kept hB hg b o u))
theorem lit_B (w W : World) [hb : Bel w W] (y : Bool) : (Kd.bool).C (W.alloc (.cells #[.bool y] 4)) (some ⟨W.heap.size, 0, none⟩) 1 [y] :=
  (Acc.lit1 (d := Kd.bool) (e := 4) (x := y) (cs := [.bool y]) hb rfl).C.2.2

abbrev AccS (w0 W : World) (v : Value) (xs : List ByteArray) : Prop := Acc (Kd.string) 9 w0 W v xs
theorem AccS.app {w0 Wr W : World} {v : Value} {xs : List ByteArray} (HO : AccS w0 Wr v xs) {y : ByteArray} {ops : Array Oper} {rest : List Oper} {o : Oper} {a : Act} {Q : Exit → Act → World → Prop} {s x : Operand}
    (hgd : o.guard = none) (ho : o.op = .call { callee := .builtin .append, args := #[s, x], argTypes := #[70, 70] }) (hs : a.eval s = v) {n : Nat} (hx : a.eval x = .slice (some ⟨n, 0, none⟩) 1 1) (hn : W.heap.size = n)
    (hB : Bel Wr W) (hl : (xs.length + 1) * 16 ≤ 140737488355328)
    (h : ∀ v1 w1, AccS w0 w1 v1 (xs ++ [y]) → (∀ b o u, Wr.heap.size ≤ b → W.cell? ⟨b, o, none⟩ = some u → w1.cell? ⟨b, o, none⟩ = some u) → wpList Tryz.prog ops Q rest (a.put o.dst v1) w1) :
    wpList Tryz.prog ops Q (o :: rest) a (W.alloc (.cells #[.string y] 9)) :=
  Acc.app HO (bytes := 16) (z := .string ⟨#[]⟩) (p := y) (cs := [.string y]) Tryz.underlying70 info9 rfl Nat.one_pos (by decide) hgd ho hs hx hn hB rfl hl (fun v1 w1 h1 hg => h v1 w1 h1 (fun b o u => HO.kept hB hg b o u))
theorem AccS.appRow {w0 Wr W : World} {v : Value} {xs ys : List ByteArray} (HO : AccS w0 Wr v xs) {A : Option Addr} {m c : Nat} {ops : Array Oper} {rest : List Oper} {o : Oper} {a : Act} {Q : Exit → Act → World → Prop} {s x : Operand}
    (hgd : o.guard = none) (ho : o.op = .call { callee := .builtin .append, args := #[s, x], argTypes := #[70, 70] }) (hs : a.eval s = v) (hx : a.eval x = .slice A m c)
    (hB : Bel Wr W) (hC : (Kd.string).C W A m ys) (hl : (xs.length + m) * 16 ≤ 140737488355328)
    (h : ∀ v1 w1, AccS w0 w1 v1 (xs ++ ys) → (∀ b o u, Wr.heap.size ≤ b → W.cell? ⟨b, o, none⟩ = some u → w1.cell? ⟨b, o, none⟩ = some u) → wpList Tryz.prog ops Q rest (a.put o.dst v1) w1) :
    wpList Tryz.prog ops Q (o :: rest) a W :=
  Acc.appRow HO (bytes := 16) (z := .string ⟨#[]⟩) Tryz.underlying70 info9 rfl Nat.one_pos (by decide) hgd ho hs hx hB hC (fun _ _ h => h) hl (fun v1 w1 h1 hg => h v1 w1 h1 (fun b o u => HO.kept hB hg b o u))
theorem lit_S (w W : World) [hb : Bel w W] (y : ByteArray) : (Kd.string).C (W.alloc (.cells #[.string y] 9)) (some ⟨W.heap.size, 0, none⟩) 1 [y] :=
  (Acc.lit1 (d := Kd.string) (e := 9) (x := y) (cs := [.string y]) hb rfl).C.2.2

theorem C_none {α : Type} {d : Kd α} {w : World} {n : Nat} {l : List α} (h : d.C w none n l) : l = [] := by
  rcases Nat.eq_zero_or_pos n with h0 | h0
  · exact List.eq_nil_of_length_eq_zero (h.1.trans h0)
  · obtain ⟨_, h1, _⟩ := h.2.2 h0
    cases h1
end Go.Proofs.YtkdedpofghlmoaaGreatDoor
