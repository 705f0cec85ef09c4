/- Slices that a call makes itself by append: what the walks of this seat say of them. No statement is proved here. -/
import Derived.Test.YtkdedpofghlmoaaGreatDoorB0
set_option linter.unusedVariables false
set_option linter.unusedSimpArgs false
namespace Go.Proofs.YtkdedpofghlmoaaGreatDoor
open Go.RowKit Go.Proofs.YtkdedpofghlmoaaGreatDoorW.PrintWords

/-- The greater, the lesser one. -/
def mxi (x y : Int) : Int := if x < y then y else x
def mni (x y : Int) : Int := if y < x then y else x
theorem mxi_max (x y : Int) : mxi x y = max x y := by unfold mxi; omega
theorem mni_min (x y : Int) : mni x y = min x y := by unfold mni; omega
theorem max2_int (k k' : IntKind) (x y : Int) : Builtin.max2 (.int k x) (.int k' y) = pure (.int k (mxi x y)) := by simp only [Builtin.max2, gt_iff_lt, mxi]
theorem min2_int (k k' : IntKind) (x y : Int) : Builtin.min2 (.int k x) (.int k' y) = pure (.int k (mni x y)) := by simp only [Builtin.min2, mni]
theorem max_two (ats : Array TypeId) (ty : TypeId) (a b : Value) : Builtin.max_ ats ty #[a, b] = (Builtin.max2 a b >>= fun s => pure s) := by simp only [Builtin.max_, List.foldlM_cons, List.foldlM_nil]
theorem min_two (ats : Array TypeId) (ty : TypeId) (a b : Value) : Builtin.min_ ats ty #[a, b] = (Builtin.min2 a b >>= fun s => pure s) := by simp only [Builtin.min_, List.foldlM_cons, List.foldlM_nil]
attribute [go_sem] max2_int min2_int max_two min_two

/-- Since world w0 a slice v has been made that holds xs; all that lay in w0 is as it was. -/
class Acc {α : Type} (d : Kd α) (e : Nat) (w0 W : World) (v : Value) (xs : List α) : Prop where
  own : d.R e W w0.heap.size (fun _ => True) v xs
  bel : Bel w0 W
section
variable {α : Type} {d : Kd α} {e : Nat} {w0 W : World} {v : Value} {xs : List α}
theorem Acc.later (h : Acc d e w0 W v xs) {w1 : World} (hb : Bel W w1) : Acc d e w0 w1 v xs := ⟨Kd.R_below h.own hb.out, h.bel.trans hb⟩
instance Acc.nil : Acc d e w0 w0 (.slice none 0 0) [] := ⟨Kd.R_nil _ _ _ _ _, inferInstance⟩
instance Acc.alloc (o : Obj) [h : Acc d e w0 W v xs] : Acc d e w0 (W.alloc o) v xs := h.later inferInstance
instance Acc.drew [h : Acc d e w0 W v xs] : Acc d e w0 W.drew v xs := h.later inferInstance
instance Acc.drewN (n : Nat) [h : Acc d e w0 W v xs] : Acc d e w0 (W.drewN n) v xs := h.later inferInstance
theorem Acc.cell (h : Acc d e w0 W v xs) {a : Addr} {u : Value} (hc : w0.cell? a = some u) : W.cell? a = some u := h.bel.cell hc
theorem Acc.reads (h : Acc d e w0 W v xs) : ∃ A c, v = .slice A xs.length c ∧ xs.length ≤ c ∧ d.C W A xs.length xs := Kd.R_reads h.own
theorem Acc.len (h : Acc d e w0 W v xs) : ∃ A c, v = .slice A xs.length c := Kd.R_slice h.own
/-- What lies behind the row's own world when it is written. -/
theorem Acc.kept (h : Acc d e w0 W v xs) {W1 W2 : World} (hb : Bel W W1) (hg : W1.grownBy W2 v.ownBlock) (b o : Nat) (u : Value) (hle : W.heap.size ≤ b) (hc : W1.cell? ⟨b, o, none⟩ = some u) : W2.cell? ⟨b, o, none⟩ = some u := by
  obtain ⟨inner, ho⟩ := Kd.R_own h.own
  have hlt := World.block_lt_of_cell? W1 _ hc
  exact (World.cell?_of_block (w := W1) (hg.block b hlt (fun e => by have := own_lt ho b e.symm; omega))).trans hc
theorem Acc.app {bytes t n : Nat} {z : Value} {p : α} {cs : List Value} {Wr : World} (HO : Acc d e w0 Wr v xs) {ops : Array Oper} {rest : List Oper} {o : Oper} {a : Act} {Q : Exit → Act → World → Prop} {s x : Operand}
    (ht : Tryz.prog.underlying t = some (.slice e)) (hinfo : (Tryz.prog.info? e).map (fun i => (i.zero, i.size, i.bytes)) = some (some z, d.sz, bytes)) (hz : z.cells.size = d.sz) (hs0 : 0 < d.sz) (hb0 : 0 < bytes)
    (hgd : o.guard = none) (ho : o.op = .call { callee := .builtin .append, args := #[s, x], argTypes := #[t, t] }) (hs : a.eval s = v) (hx : a.eval x = .slice (some ⟨n, 0, none⟩) 1 1) (hn : W.heap.size = n) (hB : Bel Wr W)
    (hp : d.M W w0.heap.size (fun k => some k ≠ v.ownBlock) p cs) (hl : (xs.length + 1) * bytes ≤ 140737488355328)
    (h : ∀ v1 w1, Acc d e w0 w1 v1 (xs ++ [p]) → W.grownBy w1 v.ownBlock → wpList Tryz.prog ops Q rest (a.put o.dst v1) w1) :
    wpList Tryz.prog ops Q (o :: rest) a (W.alloc (.cells cs.toArray e)) :=
  Kd.R_append d w0.heap.size hgd s x t e z bytes ho ht hinfo hz hs0 hb0 v xs p cs (fun _ => True) (fun k => some k ≠ v.ownBlock) hs (hn ▸ hx) hp (fun _ hk => ⟨trivial, hk⟩) (fun _ _ => trivial)
    (HO.later hB).own (HO.later hB).bel.out (HO.later hB).bel.out.size hl (fun v1 w1 ho1 hb1 hg _ => h v1 w1 ⟨ho1, ⟨hb1⟩⟩ hg)
theorem Acc.appRow {bytes t m c : Nat} {z : Value} {A : Option Addr} {ys : List α} {Wr : World} (HO : Acc d e w0 Wr v xs) {ops : Array Oper} {rest : List Oper} {o : Oper} {a : Act} {Q : Exit → Act → World → Prop} {s x : Operand}
    (ht : Tryz.prog.underlying t = some (.slice e)) (hinfo : (Tryz.prog.info? e).map (fun i => (i.zero, i.size, i.bytes)) = some (some z, d.sz, bytes)) (hz : z.cells.size = d.sz) (hs0 : 0 < d.sz) (hb0 : 0 < bytes)
    (hgd : o.guard = none) (ho : o.op = .call { callee := .builtin .append, args := #[s, x], argTypes := #[t, t] }) (hs : a.eval s = v) (hx : a.eval x = .slice A m c) (hB : Bel Wr W)
    (hC : d.C W A m ys) (hKM : ∀ x cs, d.K W x cs → d.M W w0.heap.size (fun k => some k ≠ v.ownBlock) x cs) (hl : (xs.length + m) * bytes ≤ 140737488355328)
    (h : ∀ v1 w1, Acc d e w0 w1 v1 (xs ++ ys) → W.grownBy w1 v.ownBlock → wpList Tryz.prog ops Q rest (a.put o.dst v1) w1) :
    wpList Tryz.prog ops Q (o :: rest) a W :=
  Kd.R_append_rows d (Rr := d.K W) w0.heap.size hgd s x t e z bytes ho ht hinfo hz hs0 hb0 v xs ys A m c (fun _ => True) (fun k => some k ≠ v.ownBlock) hs hx (HO.later hB).own hC hKM (fun _ hk => ⟨trivial, hk⟩) (fun _ _ => trivial)
    (HO.later hB).bel.out (HO.later hB).bel.out.size hl (fun v1 w1 ho1 hb1 hg _ => h v1 w1 ⟨ho1, ⟨hb1⟩⟩ hg)
/-- An empty literal. -/
theorem Acc.lit0 {w0 W : World} (hb : Bel w0 W) : Acc d e w0 (W.alloc (.cells #[] e)) (.slice (some ⟨W.heap.size, 0, none⟩) 0 0) ([] : List α) :=
  ⟨⟨fun _ _ => trivial, OwnRow.lit (ps := []) (inner := []) W w0.heap.size (Reps.none _ _) hb.out.size (by simp)⟩, inferInstance⟩
/-- A literal of one element. -/
theorem Acc.lit1 {w0 W : World} (hb : Bel w0 W) {x : α} {cs : List Value} (hM : d.M (W.alloc (.cells cs.toArray e)) w0.heap.size (fun k => True ∧ some k ≠ some W.heap.size) x cs) :
    Acc d e w0 (W.alloc (.cells cs.toArray e)) (.slice (some ⟨W.heap.size, 0, none⟩) 1 1) [x] :=
  ⟨⟨fun _ _ => trivial, OwnRow.lit (ps := [x]) (inner := cs) W w0.heap.size ((Reps.none (d.M (W.alloc (.cells cs.toArray e)) w0.heap.size (fun k => True ∧ some k ≠ some W.heap.size)) d.sz).snoc hM (d.K_len (d.K_of_M hM))) hb.out.size (by simp)⟩, inferInstance⟩
theorem Acc.C {A : Option Addr} {n c : Nat} (h : Acc d e w0 W (.slice A n c) xs) : xs.length = n ∧ n ≤ c ∧ d.C W A xs.length xs := by
  obtain ⟨A', c', he, h1, h2⟩ := h.reads
  injection he with e1 e2 e3
  subst e1 e2 e3
  exact ⟨rfl, h1, h2⟩
end

/-! ranges -/
theorem kRng_mkM (w : World) (base : Nat) (ok : Nat → Prop) (x : Rng) : kRng.M w base ok x [.int .i64 x.lo, .int .i64 x.hi] := ⟨[.int .i64 x.lo], [.int .i64 x.hi], rfl, rfl, rfl⟩
theorem kRng_KM {w W : World} {base : Nat} {ok : Nat → Prop} (x : Rng) (cs : List Value) (h : kRng.K w x cs) : kRng.M W base ok x cs := by rw [kRng_open h]; exact kRng_mkM _ _ _ _
abbrev AccR (w0 W : World) (v : Value) (xs : List Rng) : Prop := Acc kRng 101 w0 W v xs

theorem AccR.app {w0 Wr W : World} {v : Value} {xs : List Rng} (HO : AccR w0 Wr v xs) {lo hi : Int} {ops : Array Oper} {rest : List Oper} {o : Oper} {a : Act} {Q : Exit → Act → World → Prop} {s x : Operand}
    (hgd : o.guard = none) (ho : o.op = .call { callee := .builtin .append, args := #[s, x], argTypes := #[46, 46] }) (hs : a.eval s = v) {n : Nat} (hx : a.eval x = .slice (some ⟨n, 0, none⟩) 1 1) (hn : W.heap.size = n)
    (hB : Bel Wr W) (hl : xs.length ≤ 8796093022207)
    (h : ∀ v1 w1, AccR w0 w1 v1 (xs ++ [⟨lo, hi⟩]) → (∀ b o u, Wr.heap.size ≤ b → W.cell? ⟨b, o, none⟩ = some u → w1.cell? ⟨b, o, none⟩ = some u) → wpList Tryz.prog ops Q rest (a.put o.dst v1) w1) :
    wpList Tryz.prog ops Q (o :: rest) a (W.alloc (.cells #[.int .i64 lo, .int .i64 hi] 101)) :=
  Acc.app HO (bytes := 16) (z := .agg #[.int .i64 0, .int .i64 0]) (p := (⟨lo, hi⟩ : Rng)) (cs := [.int .i64 lo, .int .i64 hi]) Tryz.underlying46 info101 rfl Nat.two_pos (by decide) hgd ho hs hx hn hB (kRng_mkM _ _ _ (⟨lo, hi⟩ : Rng)) (by omega) (fun v1 w1 h1 hg => h v1 w1 h1 (fun b o u => HO.kept hB hg b o u))

theorem AccR.appRow {w0 Wr W : World} {v : Value} {xs ys : List Rng} (HO : AccR w0 Wr v xs) {A : Option Addr} {m c : Nat} {ops : Array Oper} {rest : List Oper} {o : Oper} {a : Act} {Q : Exit → Act → World → Prop} {s x : Operand}
    (hgd : o.guard = none) (ho : o.op = .call { callee := .builtin .append, args := #[s, x], argTypes := #[46, 46] }) (hs : a.eval s = v) (hx : a.eval x = .slice A m c)
    (hB : Bel Wr W) (hC : kRng.C W A m ys) (hl : xs.length + m ≤ 8796093022208)
    (h : ∀ v1 w1, AccR w0 w1 v1 (xs ++ ys) → (∀ b o u, Wr.heap.size ≤ b → W.cell? ⟨b, o, none⟩ = some u → w1.cell? ⟨b, o, none⟩ = some u) → wpList Tryz.prog ops Q rest (a.put o.dst v1) w1) :
    wpList Tryz.prog ops Q (o :: rest) a W :=
  Acc.appRow HO (bytes := 16) (z := .agg #[.int .i64 0, .int .i64 0]) Tryz.underlying46 info101 rfl Nat.two_pos (by decide) hgd ho hs hx hB hC kRng_KM (by omega) (fun v1 w1 h1 hg => h v1 w1 h1 (fun b o u => HO.kept hB hg b o u))
/-- A region that draws its order and comes to one frame and one world in whatever order. -/
theorem region_once {P : Program} {i : Nat} {ops : Array Oper} {b : Bool} {Q : Exit → Act → World → Prop} {a : Act} {w : World} (A : Act) (W : World)
    (h : (Code.region i ops b).wp P (fun e a' w' => e = .normal ∧ a' = A ∧ w' = W) a w) (k : Q .normal A W) : (Code.region i ops b).wp P Q a w :=
  Code.wp_mono (fun _ _ _ ⟨he, ha, hw⟩ => by rw [he, ha, hw]; exact k) h

theorem ret_ib {k : IntKind} {x y : Int × Bool} (h : x = y) : Ending.returned (.tuple #[.int k x.1, .bool x.2]) = .returned (.tuple #[.int k y.1, .bool y.2]) := by rw [h]
theorem ret_ii {k k' : IntKind} {x y : Int × Int} (h : x = y) : Ending.returned (.tuple #[.int k x.1, .int k' x.2]) = .returned (.tuple #[.int k y.1, .int k' y.2]) := by rw [h]
theorem ret_bi {k : IntKind} {x y : Bool × Int} (h : x = y) : Ending.returned (.tuple #[.bool x.1, .int k x.2]) = .returned (.tuple #[.bool y.1, .int k y.2]) := by rw [h]
/-- A call hands back a slice that reads as xs. -/
def RetS {α : Type} (d : Kd α) (xs : List α) (w : World) (e : Ending) (w' : World) : Prop := ∃ A c, e = .returned (.slice A xs.length c) ∧ xs.length ≤ c ∧ d.C w' A xs.length xs ∧ Bel w w'
/-- .. and one in memory of its own. -/
def RetO {α : Type} (d : Kd α) (e0 : Nat) (xs : List α) (w : World) (e : Ending) (w' : World) : Prop := ∃ v, e = .returned v ∧ Acc d e0 w w' v xs
theorem RetO.s {α : Type} {d : Kd α} {e0 : Nat} {xs : List α} {w w' : World} {e : Ending} (h : RetO d e0 xs w e w') : RetS d xs w e w' := by
  obtain ⟨v, rfl, h⟩ := h
  obtain ⟨A, c, rfl, h1, h2⟩ := h.reads
  exact ⟨A, c, rfl, h1, h2, h.bel⟩
theorem C_len {α : Type} {d : Kd α} {w : World} {A : Option Addr} {n : Nat} {xs : List α} (h : d.C w A n xs) : xs.length ≤ 9223372036854775807 := by have h1 := h.1; have h2 := h.2.1; omega
end Go.Proofs.YtkdedpofghlmoaaGreatDoor
