/- What the reference's Renamed has in memory. No statement is proved here. -/
import Derived.Test.YtkdedpofghlmoaaGreatDoorW1
import Derived.Test.YtkdedpofghlmoaaGreatDoorWArr
import Derived.IntWalk
set_option linter.unusedVariables false
set_option linter.unusedSimpArgs false
namespace Go.Proofs.YtkdedpofghlmoaaGreatDoor
open Go.RowKit Go.Proofs.YtkdedpofghlmoaaGreatDoorW.PrintWords
theorem kTerm_var {W : World} {base : Nat} {ok : Nat → Prop} {t : Term} {cs : List Value} (h : kTerm.M W base ok t cs) (x : Int) : kTerm.M W base ok ⟨x, t.c⟩ (.int .i64 x :: cs.tail) := by
  obtain ⟨c0, c1, rfl, h0, h1⟩ := h
  obtain rfl : c0 = [.int .i64 t.var] := h0
  exact ⟨[.int .i64 x], c1, rfl, rfl, h1⟩
theorem kTerm_len {W : World} {base : Nat} {ok : Nat → Prop} {t : Term} {cs : List Value} (h : kTerm.M W base ok t cs) : cs.length = 4 := kTerm.K_len (kTerm.K_of_M h)
theorem set_seg (inner : List Value) (k : Nat) (v : Value) (h : k * 4 + 4 ≤ inner.length) : inner.take (k * 4) ++ (v :: ((inner.drop (k * 4)).take 4).tail) ++ inner.drop (k * 4 + (v :: ((inner.drop (k * 4)).take 4).tail).length) = inner.set (k * 4) v := by
  have hl : (v :: ((inner.drop (k * 4)).take 4).tail).length = 4 := by simp; omega
  apply List.ext_getElem?
  intro q
  rw [seg_get inner _ _ (by omega), hl]
  by_cases h1 : q < k * 4
  · rw [if_pos h1, List.getElem?_set_ne (by omega)]
  · rw [if_neg h1]
    by_cases h2 : q = k * 4
    · subst h2
      rw [if_pos (by omega), List.getElem?_set_self (by omega)]
      simp
    · rw [List.getElem?_set_ne (by omega)]
      by_cases h3 : q < k * 4 + 4
      · rw [if_pos h3]
        obtain ⟨m, hm⟩ : ∃ m, q - k * 4 = m + 1 := ⟨q - k * 4 - 1, by omega⟩
        rw [hm, List.getElem?_cons_succ, List.getElem?_tail, List.getElem?_take, if_pos (by omega), List.getElem?_drop]
        congr 1
        omega
      · rw [if_neg h3]
theorem R_var {W : World} {base : Nat} {ok : Nat → Prop} {g cap : Nat} {l : List Term} (h : kTerm.R 64 W base ok (.slice (some ⟨g, 0, none⟩) l.length cap) l) {k : Nat} {t : Term} (hk : l[k]? = some t) (x : Int) :
    kTerm.R 64 (W.setCell ⟨g, k * 4, none⟩ (.int .i64 x)) base ok (.slice (some ⟨g, 0, none⟩) l.length cap) (l.set k ⟨x, t.c⟩) := by
  obtain ⟨h0, inner, ho, hr⟩ := h
  have hkl : k < l.length := (List.getElem?_eq_some_iff.1 hk).1
  have hfit : k * 4 + 4 ≤ inner.length := by
    rw [hr.1]
    show k * 4 + 4 ≤ l.length * 4
    omega
  have hr' : Reps (kTerm.M (W.setCell ⟨g, k * 4, none⟩ (.int .i64 x)) base fun k' => ok k' ∧ some k' ≠ (Value.slice (some ⟨g, 0, none⟩) l.length cap).ownBlock) 4 l inner := hr.imp_ (fun p c hp => Kd.M_far hp (p := ⟨g, k * 4, none⟩) (fun k' hk' e => hk'.2 (by rw [e]; rfl)) _)
  have hseg := hr'.2 k t hk
  have hr2 := Kd.reps_set hr' hkl (kTerm_var hseg x) (by
    have := kTerm_len hseg
    simp only [List.length_cons, List.length_tail]
    omega)
  rw [set_seg inner k _ hfit] at hr2
  refine ⟨h0, inner.set (k * 4) (.int .i64 x), ?_, hr2⟩
  obtain ⟨hlen, hc⟩ := ho
  refine ⟨by rw [List.length_set, List.length_set]; exact hlen, ?_⟩
  rcases hc with ⟨_, hz⟩ | ⟨g', cap', cur, hv, hg, hh, h1, h2, h3, h4⟩
  · omega
  · cases hv
    rw [List.length_set]
    refine .inr ⟨g, cap, cur.setIfInBounds (k * 4) (.int .i64 x), rfl, hg, heap_setCell_same W g _ cur 64 _ hh, h1, h2, by simpa using h3, ?_⟩
    rw [Array.toList_setIfInBounds, List.take_set, h4]
theorem heap_at1 {w : World} {o : Obj} {i : Nat} (h : w.heap.size = i) : (w.alloc o).heap[i]? = some o := by rw [← h]; exact heap_alloc_new w o
theorem take_snoc {α : Type} {l : List α} {j : Nat} {t : α} (h : l[j]? = some t) : l.take (j + 1) = l.take j ++ [t] := by rw [List.take_add_one, h]; rfl
theorem kTerm_own {W w0 : World} {t : Term} {sw sv : Value} {inner : List Value} {b0 e0 s0 n0 : Nat} (hr : (Kd.int .i64).R 2 W w0.heap.size (fun _ => True) sw t.c.s) (ho : w0.ownsRow b0 e0 s0 sv n0 inner) {base : Nat} (hb : base ≤ w0.heap.size) :
    kTerm.M W base (fun k => some k ≠ sv.ownBlock) t [.int .i64 t.var, .bool t.c.set, .int .i64 t.c.n, sw] :=
  ⟨[.int .i64 t.var], [.bool t.c.set, .int .i64 t.c.n, sw], rfl, rfl, ⟨[.bool t.c.set], [.int .i64 t.c.n, sw], rfl, rfl, ⟨[.int .i64 t.c.n], [sw], rfl, rfl, ⟨sw, rfl, Kd.R_lower (Kd.R_mono (Kd.R_new hr ho) (fun k hk => hk.2)) hb⟩⟩⟩⟩
/-- The rows of a constraint's terms, in memory from lo to top, one behind the other. -/
def LentCs (W : World) (base : Nat) : Nat → Nat → List Arg → List Value → Prop
  | lo, top, [], cs => lo ≤ top ∧ cs = []
  | lo, top, a :: r, cs => ∃ sv cs' hi, cs = .bool a.array :: sv :: cs' ∧ lo ≤ hi ∧ kTerm.R 64 W base (fun k => lo ≤ k ∧ k < hi) sv a.l ∧ LentCs W base hi top r cs'
theorem LentCs.le {W : World} {base : Nat} : ∀ {args : List Arg} {lo top : Nat} {cs : List Value}, LentCs W base lo top args cs → lo ≤ top
  | [], _, _, _, h => h.1
  | a :: r, lo, top, cs, h => by
    obtain ⟨sv, cs', hi, _, h1, _, h2⟩ := h
    exact Nat.le_trans h1 (LentCs.le h2)
theorem LentCs.len {W : World} {base : Nat} : ∀ {args : List Arg} {lo top : Nat} {cs : List Value}, LentCs W base lo top args cs → cs.length = args.length * 2
  | [], _, _, _, h => by rw [h.2]; rfl
  | a :: r, lo, top, cs, h => by
    obtain ⟨sv, cs', hi, rfl, h1, _, h2⟩ := h
    have := LentCs.len h2
    simp only [List.length_cons]
    omega
theorem LentCs.move {W W' : World} {base : Nat} : ∀ {args : List Arg} {lo top : Nat} {cs : List Value}, LentCs W base lo top args cs → (∀ k, lo ≤ k → k < top → W'.heap[k]? = W.heap[k]?) → LentCs W' base lo top args cs
  | [], _, _, _, h, _ => h
  | a :: r, lo, top, cs, h, hm => by
    obtain ⟨sv, cs', hi, e, h1, h2, h3⟩ := h
    have h4 := LentCs.le h3
    exact ⟨sv, cs', hi, e, h1, Kd.R_move h2 (fun k hk => hm k hk.1 (by have := hk.2; omega)), LentCs.move h3 (fun k hk hk2 => hm k (by omega) hk2)⟩
theorem kTerm_E {q : Nat} (h : q ∈ 64 :: kTerm.E) : q = 64 ∨ q = 2 := by
  simp [kTerm, kVal, Kd.iso, Kd.pair, Kd.int, Kd.bool, Kd.slice, Kd.scalar] at h
  omega
theorem LentCs.moveT {W W' : World} {base : Nat} : ∀ {args : List Arg} {lo top : Nat} {cs : List Value}, LentCs W base lo top args cs → (∀ k cells q, lo ≤ k → k < top → q = 64 ∨ q = 2 → W.heap[k]? = some (.cells cells q (0, 0)) → W'.heap[k]? = W.heap[k]?) → LentCs W' base lo top args cs
  | [], _, _, _, h, _ => h
  | a :: r, lo, top, cs, h, hm => by
    obtain ⟨sv, cs', hi, e, h1, h2, h3⟩ := h
    have h4 := LentCs.le h3
    refine ⟨sv, cs', hi, e, h1, Kd.R_mono (Kd.R_move (Kd.R_bound h2) (fun k hk => ?_)) (fun k hk => hk.1), LentCs.moveT h3 (fun k cells q hk hk2 hq hh => hm k cells q (by omega) hk2 hq hh)⟩
    obtain ⟨hk1, _, _, q, hq, cells, hc⟩ := hk
    exact hm k cells q hk1.1 (by have := hk1.2; omega) (kTerm_E hq) hc
theorem Bel.grownBy {u W W' : World} {row : Option Nat} (h : Bel u W) (hg : W.grownBy W' row) (hle : ∀ k, row = some k → u.heap.size ≤ k) : Bel u W' :=
  ⟨⟨hg.os.trans h.out.os, hg.tape.trans h.out.tape, hg.output.trans h.out.output, Nat.le_trans h.out.size hg.size, fun j hj => by
    have := h.out.size
    rw [hg.block j (by omega) (fun e => by have := hle j e.symm; omega)]
    exact h.out.block j hj⟩⟩
theorem LentCs.snoc {W : World} {base : Nat} {a : Arg} {sv : Value} {m hi : Nat} (hr : kTerm.R 64 W base (fun k => m ≤ k ∧ k < hi) sv a.l) (hm : m ≤ hi) : ∀ {args : List Arg} {lo : Nat} {cs : List Value}, LentCs W base lo m args cs → LentCs W base lo hi (args ++ [a]) (cs ++ [.bool a.array, sv])
  | [], lo, cs, h => by
    obtain ⟨h1, rfl⟩ := h
    exact ⟨sv, [], hi, rfl, by omega, Kd.R_mono hr (fun k hk => ⟨by have := hk.1; omega, hk.2⟩), Nat.le_refl _, rfl⟩
  | b :: r, lo, cs, h => by
    obtain ⟨sv', cs', hi', rfl, h1, h2, h3⟩ := h
    exact ⟨sv', cs' ++ [.bool a.array, sv], hi', rfl, h1, h2, LentCs.snoc hr hm h3⟩
theorem LentCs.raise {W : World} {base : Nat} : ∀ {args : List Arg} {lo top top' : Nat} {cs : List Value}, LentCs W base lo top args cs → top ≤ top' → LentCs W base lo top' args cs
  | [], _, _, _, _, h, hle => ⟨Nat.le_trans h.1 hle, h.2⟩
  | a :: r, lo, top, top', cs, h, hle => by
    obtain ⟨sv, cs', hi, e, h1, h2, h3⟩ := h
    exact ⟨sv, cs', hi, e, h1, h2, LentCs.raise h3 hle⟩
/-- What an argument's cells are. -/
theorem LentCs.nth {W : World} {base : Nat} : ∀ {args : List Arg} {lo top : Nat} {cs : List Value}, LentCs W base lo top args cs → ∀ {i : Nat} {a : Arg}, args[i]? = some a →
    ∃ sv lo' hi, cs[i * 2]? = some (.bool a.array) ∧ cs[i * 2 + 1]? = some sv ∧ lo ≤ lo' ∧ lo' ≤ hi ∧ hi ≤ top ∧ kTerm.R 64 W base (fun k => lo' ≤ k ∧ k < hi) sv a.l
  | [], _, _, _, _, i, a, hi => by simp at hi
  | b :: r, lo, top, cs, h, i, a, hi => by
    obtain ⟨sv, cs', m, rfl, h1, h2, h3⟩ := h
    cases i with
    | zero =>
      obtain rfl : b = a := by simpa using hi
      exact ⟨sv, lo, m, rfl, rfl, Nat.le_refl _, h1, LentCs.le h3, h2⟩
    | succ i =>
      rw [List.getElem?_cons_succ] at hi
      obtain ⟨sv', lo', hi', e1, e2, e3, e4, e5, e6⟩ := LentCs.nth h3 hi
      refine ⟨sv', lo', hi', ?_, ?_, by omega, e4, e5, e6⟩
      · rw [show (i + 1) * 2 = i * 2 + 1 + 1 from by omega, List.getElem?_cons_succ, List.getElem?_cons_succ]
        exact e1
      · rw [show (i + 1) * 2 + 1 = i * 2 + 1 + 1 + 1 from by omega, List.getElem?_cons_succ, List.getElem?_cons_succ]
        exact e2
/-- A variable's number is written over. -/
theorem LentCs.put {W : World} {base : Nat} {x : Int} {k : Nat} {t : Term} : ∀ {args : List Arg} {lo top : Nat} {cs : List Value}, LentCs W base lo top args cs → ∀ {i : Nat} {a : Arg}, args[i]? = some a → a.l[k]? = some t →
    ∃ g cap cur, cs[i * 2 + 1]? = some (.slice (some ⟨g, 0, none⟩) a.l.length cap) ∧ lo ≤ g ∧ g < top ∧ W.heap[g]? = some (.cells cur 64 (0, 0)) ∧ cur[k * 4]? = some (.int .i64 t.var) ∧ LentCs (W.setCell ⟨g, k * 4, none⟩ (.int .i64 x)) base lo top (args.set i ⟨a.array, a.l.set k ⟨x, t.c⟩⟩) cs
  | [], _, _, _, _, i, a, hi, _ => by simp at hi
  | b :: r, lo, top, cs, h, i, a, hi, hk => by
    obtain ⟨sv, cs', m, rfl, h1, h2, h3⟩ := h
    have hle := LentCs.le h3
    cases i with
    | zero =>
      obtain rfl : b = a := by simpa using hi
      have hkl : k < b.l.length := (List.getElem?_eq_some_iff.1 hk).1
      obtain ⟨inner, ho⟩ := Kd.R_own h2
      have hsz : kTerm.sz = 4 := rfl
      obtain ⟨g, cap, cur, rfl, hg, hh, l1, l2, l3, l4⟩ := ho.2.resolve_left (fun e => by omega)
      have hok := h2.1 g rfl
      have hread : cur[k * 4]? = some (.int .i64 t.var) := by
        obtain ⟨A', c', he, _, hC⟩ := Kd.R_reads h2
        cases he
        obtain ⟨ad, _, _, e1, e2, _⟩ := Term.nth hC hk
        cases e1
        rw [Addr.add_lit, Nat.zero_add, row_cell hh] at e2
        exact e2
      refine ⟨g, cap, cur, rfl, hok.1, by omega, hh, hread, ?_⟩
      refine ⟨_, cs', m, rfl, h1, R_var h2 hk x, LentCs.move h3 (fun q hq _ => heap_setCell_other _ _ _ _ (show q ≠ g from by have := hok.2; omega))⟩
    | succ i =>
      rw [List.getElem?_cons_succ] at hi
      obtain ⟨g, cap, cur, e1, e2, e3, e4, e5, e6⟩ := LentCs.put h3 hi hk
      refine ⟨g, cap, cur, ?_, by omega, e3, e4, e5, ?_⟩
      · rw [show (i + 1) * 2 + 1 = i * 2 + 1 + 1 + 1 from by omega, List.getElem?_cons_succ, List.getElem?_cons_succ]
        exact e1
      · exact ⟨sv, cs', m, rfl, h1, Kd.R_move h2 (fun q hq => heap_setCell_other _ _ _ _ (show q ≠ g from by have := hq.2; omega)), e6⟩
end Go.Proofs.YtkdedpofghlmoaaGreatDoor
set_option linter.unusedVariables false
set_option linter.unusedSimpArgs false
namespace Go.Proofs.YtkdedpofghlmoaaGreatDoor
open Go.RowKit Go.Proofs.YtkdedpofghlmoaaGreatDoorW.PrintWords
def LentPost (u : World) (name : ByteArray) (args : List Arg) (e : Ending) (w' : World) : Prop :=
  ∃ base v cs top, u.heap.size ≤ base ∧ e = .returned (.agg #[.string name, v]) ∧ w'.ownsRow base 62 2 v args.length cs ∧ LentCs w' base base top args cs ∧ top ≤ w'.heap.size ∧ Bel u w'
/-- What the copy's own memory holds behind k of its arguments. -/
structure LentAt (w w2 W : World) (b3 base : Nat) (name : ByteArray) (v : Value) (cs : List Value) (top : Nat) (args : List Arg) : Prop where
  bel : Bel w2 W
  box : W.heap[b3]? = some (.cells #[.string name, v] 24 (0, 0))
  own : W.ownsRow base 62 2 v args.length cs
  lent : LentCs W base base top args cs
  top : top ≤ W.heap.size
  lb : base ≤ W.heap.size
theorem lentAt_next {w w2 wo wr w1 : World} {b3 base g8 c8 : Nat} {name : ByteArray} {v sv : Value} {cs : List Value} {top : Nat} {pre : List Arg} {a : Arg} (hT : LentAt w w2 wo b3 base name v cs top pre) (hb : w2.heap.size = b3) (hbb : b3 + 1 = base) (hS : Acc kTerm 64 wo wr sv a.l)
    (ho : w1.ownsRow base 62 2 (.slice (some ⟨g8, 0, none⟩) (pre.length + 1) c8) (pre.length + 1) (cs ++ [.bool a.array, sv])) (hg : wr.grownBy w1 v.ownBlock) (hat : some g8 = v.ownBlock ∨ wr.heap.size ≤ g8) :
    LentAt w w2 (w1.setCell ⟨b3, 1, none⟩ (.slice (some ⟨g8, 0, none⟩) (pre.length + 1) c8)) b3 base name (.slice (some ⟨g8, 0, none⟩) (pre.length + 1) c8) (cs ++ [.bool a.array, sv]) wr.heap.size (pre ++ [a]) := by
  have hvb : ∀ q, v.ownBlock = some q → base ≤ q ∧ q < wo.heap.size ∧ ∃ cells, wo.heap[q]? = some (.cells cells 62 (0, 0)) := fun q hq => ⟨own_base hT.own q hq, own_lt hT.own q hq, own_typed hT.own q hq⟩
  have s1 := hS.bel.out.size
  have s2 := hg.size
  have hbox : wr.heap[b3]? = some (.cells #[.string name, v] 24 (0, 0)) := (hS.bel.out.block _ (blk_lt hT.box)).trans hT.box
  have hb3 : b3 < wo.heap.size := blk_lt hT.box
  have hne3 : some b3 ≠ v.ownBlock := fun e => by
    have := (hvb b3 e.symm).1
    omega
  have hbox1 : w1.heap[b3]? = some (.cells #[.string name, v] 24 (0, 0)) := (hg.block _ (by omega) hne3).trans hbox
  have hB1 : Bel w2 w1 := Bel.grownBy (hT.bel.trans hS.bel) hg (fun q hq => by have := (hvb q hq).1; omega)
  have h8 : base ≤ g8 := by
    have := own_base ho g8 rfl
    exact this
  -- what is of type 64 or 2 in wr stays
  have keep : ∀ k cells q, k < wr.heap.size → q = 64 ∨ q = 2 → wr.heap[k]? = some (.cells cells q (0, 0)) → (w1.setCell ⟨b3, 1, none⟩ (.slice (some ⟨g8, 0, none⟩) (pre.length + 1) c8)).heap[k]? = wr.heap[k]? := by
    intro k cells q hk hq hc
    have hk3 : k ≠ b3 := fun e => by
      subst e
      rw [hbox] at hc
      rcases hq with rfl | rfl <;> exact absurd hc (by simp)
    rw [heap_setCell_other _ _ _ _ hk3]
    refine hg.block k hk (fun e => ?_)
    obtain ⟨_, hlt, cells', hc'⟩ := hvb k e.symm
    rw [hS.bel.out.block k hlt, hc'] at hc
    rcases hq with rfl | rfl <;> exact absurd hc (by simp)
  refine ⟨⟨hB1.out.setCell (p := ⟨b3, 1, none⟩) (show w2.heap.size ≤ b3 from by omega) _⟩, ?_, ?_, ?_, ?_, ?_⟩
  · have := heap_setCell_same w1 b3 1 _ 24 (.slice (some ⟨g8, 0, none⟩) (pre.length + 1) c8) hbox1
    simpa using this
  · rw [List.length_append, List.length_singleton]
    refine own_setCell ho (p := ⟨b3, 1, none⟩) (fun e => ?_) _
    injection e with e
    change b3 = g8 at e
    omega
  · have hl0 : LentCs wr base base wo.heap.size pre cs := LentCs.raise (LentCs.move hT.lent (fun k _ hk => hS.bel.out.block k (by have := hT.top; omega))) hT.top
    have hl1 := LentCs.moveT hl0 (fun k cells q _ hk hq hc => keep k cells q (by omega) hq hc)
    refine LentCs.snoc (m := wo.heap.size) ?_ s1 hl1
    have hr := Kd.R_bound hS.own
    refine Kd.R_mono (Kd.R_move (Kd.R_lower hr hT.lb) (fun k hk => ?_)) (fun k hk => ⟨hk.2.1, hk.2.2.1⟩)
    obtain ⟨_, _, hk2, q, hq, cells, hc⟩ := hk
    exact keep k cells q hk2 (kTerm_E hq) hc
  · simp [World.setCell]
    exact s2
  · have : base ≤ w1.heap.size := by have := hT.lb; omega
    simpa [World.setCell] using this
theorem size24 : (Tryz.prog.info? 24).map (·.size) = some 2 := by kernel_rfl
theorem set2 {W : World} {g : Nat} {a b p q : Value} {ty : TypeId} (h : W.heap[g]? = some (.cells #[a, b] ty (0, 0))) : ((W.setCell ⟨g, 0, none⟩ p).setCell ⟨g, 1, none⟩ q).heap[g]? = some (.cells #[p, q] ty (0, 0)) := by
  have h1 := heap_setCell_same W g 0 _ ty p h
  have h2 := heap_setCell_same _ g 1 _ ty q h1
  simpa using h2
theorem lentC_ret {W : World} {g : Nat} {tm : Array Value} {a b x y : Value} {R : Ending → World → Prop} (h : W.heap[g]? = some (.cells #[a, b] 24 (0, 0))) (hR : R (.returned (.agg #[x, y])) ((W.setCell ⟨g, 0, none⟩ x).setCell ⟨g, 1, none⟩ y)) (ht : tm.getD 2 undef = .pointer (some ⟨g, 0, none⟩)) :
    bodyPost Tryz.prog Tryz.f17 R Exit.ret { tmps := tm, defers := [] } ((W.setCell ⟨g, 0, none⟩ x).setCell ⟨g, 1, none⟩ y) := by
  refine bodyPost_ret (v := .agg #[x, y]) (results_cell_row (fn := Tryz.f17) (p := 2) (ty := 24) rfl _ _ _ 24 _ (0, 0) _ ht (set2 h) Tryz.underlying24 rfl size24) rfl hR
theorem lentC_end {w w2 wr : World} {b2 b3 base : Nat} {name : ByteArray} {v : Value} {cs : List Value} {top : Nat} {args : List Arg} {x y : Value} (hT : LentAt w w2 wr b3 base name v cs top args) (hw : Bel w w2) (hb : w.heap.size ≤ b2) (hb2 : b2 < w2.heap.size) (hbb : w2.heap.size ≤ base) :
    LentPost w name args (.returned (.agg #[.string name, v])) ((wr.setCell ⟨b2, 0, none⟩ x).setCell ⟨b2, 1, none⟩ y) := by
  have hne : some b2 ≠ v.ownBlock := fun e => by have := own_base hT.own b2 e.symm; omega
  have hs := hw.out.size
  refine ⟨base, v, cs, top, by omega, rfl, own_setCell (own_setCell hT.own (p := ⟨b2, 0, none⟩) hne _) (p := ⟨b2, 1, none⟩) hne _, LentCs.move hT.lent (fun k hk _ => ?_), ?_, ?_⟩
  · have h2 : k ≠ b2 := by omega
    rw [heap_setCell_other _ _ _ _ h2, heap_setCell_other _ _ _ _ h2]
  · have := hT.top
    simpa [World.setCell] using this
  · exact ⟨((hw.trans hT.bel).out.setCell (p := ⟨b2, 0, none⟩) (show w.heap.size ≤ b2 from hb) _).setCell (p := ⟨b2, 1, none⟩) (show w.heap.size ≤ b2 from hb) _⟩
set_option maxRecDepth 100000 in
set_option maxHeartbeats 4000000 in
theorem law_Lent (name : ByteArray) (A : Option Addr) (c : Nat) (args : List Arg) (w : World) (ha : kArg.C w A args.length args) (hn : args.length ≤ 1048576) (hl : ∀ a ∈ args, a.l.length ≤ 1048576 ∧ ∀ t ∈ a.l, t.c.s.length ≤ 1048576) :
    Calls Tryz.prog 17 #[.agg #[.string name, .slice A args.length c]] w (LentPost w name args) := by
  have HA := Lib.hid ha
  have HL := Lib.hid hl
  clear ha hl
  go_enter Tryz.func17, Tryz.ntmps17
  go_wp2_with fail
  obtain ⟨w2, hw2⟩ : ∃ w2, (w.alloc (.cells #[.string name, .slice A args.length c] 24)).alloc (.cells #[.string ⟨#[]⟩, .slice none 0 0] 24) = w2 := ⟨_, rfl⟩
  have B2 : Bel w w2 := hw2 ▸ inferInstance
  have k1 : w2.heap[w.heap.size]? = some (.cells #[.string name, .slice A args.length c] 24 (0, 0)) := hw2 ▸ (heap_alloc_old _ _ (by simp)).trans (heap_alloc_new _ _)
  have k2 : w2.heap[w.heap.size + 1]? = some (.cells #[.string ⟨#[]⟩, .slice none 0 0] 24 (0, 0)) := hw2 ▸ heap_alloc2_new w _ _
  have hb3 : w2.heap.size = w.heap.size + 1 + 1 := by rw [← hw2]; simp
  rw [hw2]
  have b1 : ∀ (V : World) [Bel w2 V], V.cell? ⟨w.heap.size, 1, none⟩ = some (.slice A args.length c) := fun V h => h.cell (row_cell k1 1)
  have b0 : ∀ (V : World) [Bel w2 V], V.cell? ⟨w.heap.size, 0, none⟩ = some (.string name) := fun V h => h.cell (row_cell k1 0)
  have K2 := Lib.hid k2
  have HB2 := Lib.hid B2
  obtain ⟨base, hbase⟩ : ∃ base, w2.heap.size + 1 = base := ⟨_, rfl⟩
  have HBASE := Lib.hid hbase
  have HB3 := Lib.hid hb3
  clear hw2 k1 k2 B2 hbase hb3
  go_loopw [4] (fun i wr => ∃ (k : Nat) (v : Value) (cs : List Value) (top : Nat), k ≤ args.length ∧ i = .int .i64 k ∧ Hid (LentAt w w2 wr (w.heap.size + 1 + 1) base name v cs top (args.take k))) (fun i _ => args.length - (intOf i).toNat)
  case atStart =>
    refine ⟨0, .slice none 0 0, [], base, by omega, rfl, Lib.hid ⟨inferInstance, ?_, ?_, ?_, ?_, ?_⟩⟩
    · exact heap_at1 HB3.out
    · exact ⟨rfl, .inl ⟨rfl, rfl⟩⟩
    · exact ⟨Nat.le_refl _, rfl⟩
    · rw [← HBASE.out]; simp
    · rw [← HBASE.out]; simp
  case round =>
    obtain ⟨k, v, cs, top, hk, rfl, HT⟩ := hrel
    obtain ⟨wo, hwo⟩ : ∃ wo, wo = wr := ⟨_, rfl⟩
    subst hwo
    have hbel := HT.out.bel
    by_cases hlt : k < args.length
    · obtain ⟨a, hr⟩ : ∃ r, args[k]? = some r := ⟨args[k], List.getElem?_eq_getElem hlt⟩
      obtain ⟨ad, A1, c1, rfl, e0, e1, hl1, hC1⟩ := Arg.nth HA.out hr
      have HC1 := Lib.hid hC1
      have hal := (HL.out a (List.mem_of_getElem? hr)).1
      have HTL := Lib.hid (HL.out a (List.mem_of_getElem? hr)).2
      have HAK := Lib.hid hr
      have e0' := fun (V : World) [h : Bel w V] => h.cell e0
      have e1' := fun (V : World) [h : Bel w V] => h.cell e1
      have bw : Bel w wo := HB2.out.trans hbel
      clear hr hC1 e0 e1
      go_wp2_with fail
      obtain ⟨w5, hw5⟩ : ∃ w5, wo.alloc (.cells #[.bool a.array, .slice none 0 0] 62) = w5 := ⟨_, rfl⟩
      have z5 : w5.heap[wo.heap.size]? = some (.cells #[.bool a.array, .slice none 0 0] 62 (0, 0)) := hw5 ▸ heap_alloc_new _ _
      have q5 : Bel wo w5 := hw5 ▸ inferInstance
      rw [hw5]
      have Z5 := Lib.hid z5
      have Q5 := Lib.hid q5
      clear hw5 z5 q5
      go_loopw [6] (fun i wx => ∃ (j : Nat) (sv : Value), j ≤ a.l.length ∧ i = .int .i64 j ∧ Hid (wx.heap[wo.heap.size]? = some (.cells #[.bool a.array, sv] 62 (0, 0))) ∧ Hid (Acc kTerm 64 wo wx sv (a.l.take j))) (fun i _ => a.l.length - (intOf i).toNat)
      case atStart => exact ⟨0, _, by omega, rfl, Lib.hid Z5.out, Lib.hid (Acc.nilB Q5.out)⟩
      case round =>
        obtain ⟨j, sv, hj, rfl, HB5, HS⟩ := hrel
        have qw : Bel wo wr := HS.out.bel
        have q2 : Bel w2 wr := hbel.trans qw
        have q1 : Bel w wr := bw.trans qw
        by_cases hlj : j < a.l.length
        · obtain ⟨t, hr⟩ : ∃ r, a.l[j]? = some r := ⟨a.l[j], List.getElem?_eq_getElem hlj⟩
          obtain ⟨td, A3, c3, rfl, t0, t1, t2, t3, hl3, hC3⟩ := Term.nth HC1.out hr
          have HC3 := Lib.hid hC3
          have hsl := HTL.out t (List.mem_of_getElem? hr)
          have HTJ := Lib.hid hr
          have t0' := fun (V : World) [h : Bel w V] => h.cell t0
          have t1' := fun (V : World) [h : Bel w V] => h.cell t1
          have t2' := fun (V : World) [h : Bel w V] => h.cell t2
          have t3' := fun (V : World) [h : Bel w V] => h.cell t3
          clear hr hC3 t0 t1 t2 t3
          have HSL := Lib.hid hsl
          go_upto_region 11 with fail
          obtain ⟨w7, hw7⟩ : ∃ w7, wr.alloc (.cells #[.int .i64 t.var, .bool t.c.set, .int .i64 t.c.n, .slice none 0 0] 64) = w7 := ⟨_, rfl⟩
          have z7 : w7.heap[wr.heap.size]? = some (.cells #[.int .i64 t.var, .bool t.c.set, .int .i64 t.c.n, .slice none 0 0] 64 (0, 0)) := hw7 ▸ heap_alloc_new _ _
          have q7 : Bel wr w7 := hw7 ▸ inferInstance
          have r2 : Bel w2 w7 := q2.trans q7
          have r1 : Bel w w7 := q1.trans q7
          rw [hw7]
          have s3 := fun (V : World) [h : Bel w7 V] => h.cell ((row_cell z7 3).trans (show _ = some (Value.slice none 0 0) from rfl))
          have f3 := fun (V : World) [h : Bel w7 V] => frozen_of_row V wr.heap.size 3 _ _ ((h.out.block _ (blk_lt z7)).trans z7)
          have hu2 := fun (V : World) [h : Bel w7 V] => @b1 V (r2.trans h)
          have hu1 := fun (V : World) [h : Bel w7 V] => e1' V (h := r1.trans h)
          have hu3 := fun (V : World) [h : Bel w7 V] => t3' V (h := r1.trans h)
          have Z7 := Lib.hid z7
          have Q7 := Lib.hid q7
          clear hw7 z7
          go_cut [] (fun wx => ∃ sw, Hid (wx.heap[wr.heap.size]? = some (.cells #[.int .i64 t.var, .bool t.c.set, .int .i64 t.c.n, sw] 64 (0, 0))) ∧ Hid ((Kd.int .i64).R 2 wx wr.heap.size (fun _ => True) sw t.c.s) ∧ Hid (Bel wr wx))
          case first =>
            go_region_law (first | (refine Kd.R_append_rows_step (Kd.int .i64) (w0 := w7.drew) w7.drew.heap.size (by rfl) (.tmp 49) (.tmp 60) 47 2 (.int .i64 0) 8 rfl Tryz.underlying47 info2 rfl (by decide) (by decide) (.slice none 0 0) [] t.c.s A3 t.c.s.length c3 (fun _ => True) (fun _ => True) rfl rfl (Kd.R_nil _ _ _ _ _) (Kd.now HC3.out (r1.trans inferInstance)) (fun _ _ h => h) (fun k _ => ⟨trivial, by simp [Value.ownBlock]⟩) (fun _ _ => trivial) (Below.refl _ _) (Nat.le_refl _) (by have := HSL.out; simp only [List.length_nil]; omega) ?_; intro v5 w5 hr5 hb5 hg5 hat5; simp only [List.nil_append] at hr5; obtain ⟨A5, c5, rfl⟩ := Kd.R_slice hr5; have x5 : Bel w7 w5 := Bel.trans (inferInstance : Bel w7 w7.drew) ⟨hb5⟩))
            all_goals
              go_wp2_with fail
              go_meet
              have hz := (x5.out.block _ (blk_lt Z7.out)).trans Z7.out
              refine ⟨.slice A5 t.c.s.length c5, Lib.hid ?_, Lib.hid ?_, Lib.hid ⟨(Q7.out.trans x5).out.setCell (p := ⟨wr.heap.size, 3, none⟩) (Nat.le_refl _) _⟩⟩
              · have := heap_setCell_same w5 wr.heap.size 3 _ 64 (.slice A5 t.c.s.length c5) hz
                simpa using this
              · exact Kd.R_set (Kd.R_lower hr5 Q7.out.out.size) hz (by intro q hq; simp [Kd.int, Kd.scalar] at hq; omega) 3 _
          case rest =>
            obtain ⟨sw, HZ, HR, HBW⟩ := hcut
            obtain ⟨As, cS, rfl⟩ := Kd.R_slice HR.out
            have hbx := (HBW.out.out.block _ (blk_lt HB5.out)).trans HB5.out
            have y0 := fun (V : World) [h : Bel wc V] => h.cell ((row_cell HZ.out 0).trans (show _ = some (Value.int .i64 t.var) from rfl))
            have y1 := fun (V : World) [h : Bel wc V] => h.cell ((row_cell HZ.out 1).trans (show _ = some (Value.bool t.c.set) from rfl))
            have y2 := fun (V : World) [h : Bel wc V] => h.cell ((row_cell HZ.out 2).trans (show _ = some (Value.int .i64 t.c.n) from rfl))
            have y3 := fun (V : World) [h : Bel wc V] => h.cell ((row_cell HZ.out 3).trans (show _ = some (Value.slice As t.c.s.length cS) from rfl))
            have x1 := fun (V : World) [h : Bel wc V] => h.cell ((row_cell hbx 1).trans (show _ = some sv from rfl))
            obtain ⟨inner, hown⟩ := Kd.R_own HS.out.own
            have HM := Lib.hid (kTerm_own HR.out hown (base := wo.heap.size) HS.out.bel.out.size)
            have HBX := Lib.hid hbx
            have hne : some wo.heap.size ≠ sv.ownBlock := Kd.R_ne HS.out.own HB5.out (by decide)
            have HNE := Lib.hid hne
            clear s3 f3 hu1 hu2 hu3 hbx hown hne
            go_wp2_with (at_builtin; refine Acc.app (bytes := 48) (z := .agg #[.int .i64 0, .bool false, .int .i64 0, .slice none 0 0]) (p := t) (cs := [.int .i64 t.var, .bool t.c.set, .int .i64 t.c.n, .slice As t.c.s.length cS]) HS.out Tryz.underlying60 info64 rfl (by decide) (by decide) rfl rfl rfl rfl rfl HBW.out HM.out (by rw [List.length_take]; omega) ?_; intro v1 w1 HO1 hg1; obtain ⟨A8, c8, hv⟩ := HO1.len; rw [show (a.l.take j ++ [t]).length = j + 1 from by rw [List.length_append, List.length_take, List.length_singleton]; omega] at hv; subst hv; have hb1 := (hg1.block _ (blk_lt HBX.out) HNE.out).trans HBX.out; have g1 := (row_cell hb1 1).trans (show _ = some sv from rfl); have g2 := frozen_of_row w1 wo.heap.size 1 _ _ hb1; have HB1' := Lib.hid hb1; have HOO := Lib.hid HO1; clear hb1 HO1 hg1 y0 y1 y2 y3 x1)
            go_roundw
            case rel =>
              refine ⟨j + 1, .slice A8 (j + 1) c8, by omega, by go_num, Lib.hid ?_, Lib.hid ?_⟩
              · have := heap_setCell_same w1 wo.heap.size 1 _ 62 (.slice A8 (j + 1) c8) HB1'.out
                simpa using this
              · rw [take_snoc HTJ.out]
                exact Acc.set HOO.out HB1'.out (by intro q hq; simp [kTerm, kVal, Kd.iso, Kd.pair, Kd.int, Kd.bool, Kd.slice, Kd.scalar] at hq; omega) (Nat.le_refl _) 1 _
            case measure => simp [intOf]; omega
        · obtain rfl : j = a.l.length := by omega
          have hs := HS.out
          rw [List.take_length] at hs
          obtain ⟨As, cS, rfl⟩ := hs.len
          have hbx := HB5.out
          have hb3 := (hs.bel.out.block _ (blk_lt HT.out.box)).trans HT.out.box
          have y0 := fun (V : World) [h : Bel wr V] => h.cell ((row_cell hbx 0).trans (show _ = some (Value.bool a.array) from rfl))
          have y1 := fun (V : World) [h : Bel wr V] => h.cell ((row_cell hbx 1).trans (show _ = some (Value.slice As a.l.length cS) from rfl))
          have y3 := fun (V : World) [h : Bel wr V] => h.cell ((row_cell hb3 1).trans (show _ = some v from rfl))
          have hown := own_move HT.out.own (fun q hq => hs.bel.out.block q (own_lt HT.out.own q hq))
          have HOWN := Lib.hid hown
          have HSS := Lib.hid hs
          have H3 := Lib.hid hb3
          have HLB := Lib.hid (Nat.le_trans HT.out.lb hs.bel.out.size)
          have hne3 : some (w.heap.size + 1 + 1) ≠ v.ownBlock := fun e => by
            have := own_base HT.out.own _ e.symm
            have := HBASE.out
            have := HB3.out
            omega
          have HNE := Lib.hid hne3
          have htk : (args.take k).length = k := by rw [List.length_take]; omega
          rw [htk] at HOWN
          clear hs hbx hb3 hown hne3 HB5 HS
          go_wp2_with (at_builtin; refine print_append_cells (w0 := wr) base rfl (.tmp 71) (.tmp 73) 22 62 (.agg #[.bool false, .slice none 0 0]) 2 32 rfl Tryz.underlying22 info62 rfl (by decide) (by decide) v k cs [.bool a.array, .slice As a.l.length cS] rfl rfl rfl (by intro u hu; simp only [List.mem_cons, List.mem_nil_iff, or_false] at hu; rcases hu with rfl | rfl <;> rfl) HOWN.out (Below.refl _ _) HLB.out (by omega) ?_; intro v1 w1 ho1 hb1 hg1 hat1; obtain ⟨g8, c8, cur8, rfl, hg8, hrest⟩ := ho1.2.resolve_left (fun h => absurd h.2 (by omega)); have hb31 := (hg1.block _ (blk_lt H3.out) HNE.out).trans H3.out; have g1 := (row_cell hb31 1).trans (show _ = some v from rfl); have g2 := frozen_of_row w1 (w.heap.size + 1 + 1) 1 _ _ hb31; have HO1 := Lib.hid ho1; have HG1 := Lib.hid hg1; have HAT := Lib.hid hat1; clear hb31 ho1 hg1 hat1 hrest hb1 y0 y1 y3)
          go_roundw
          case rel =>
            have hn := lentAt_next (a := a) (g8 := g8) (c8 := c8) HT.out HB3.out (by have := HBASE.out; have := HB3.out; omega) HSS.out (by rw [htk]; exact HO1.out) HG1.out (by
              rcases HAT.out with e | ⟨b, e, hb⟩
              · exact .inl e
              · injection e with e
                change g8 = b at e
                exact .inr (by omega))
            rw [htk] at hn
            refine ⟨k + 1, .slice (some ⟨g8, 0, none⟩) (k + 1) c8, cs ++ [.bool a.array, .slice As a.l.length cS], wr.heap.size, by omega, by go_num, Lib.hid ?_⟩
            rw [take_snoc HAK.out]
            exact hn
          case measure => simp [intOf]; omega
    · obtain rfl : k = args.length := by omega
      have hT := HT.out
      rw [List.take_length] at hT
      obtain ⟨Av, cv, rfl⟩ : ∃ Av cv, v = .slice Av args.length cv := by
        rcases hT.own.2 with ⟨h1, h2⟩ | ⟨g, cap, cur, h1, _⟩
        · exact ⟨none, 0, by rw [h2]; exact h1⟩
        · exact ⟨_, _, h1⟩
      have hk2 := (hbel.out.block _ (blk_lt K2.out)).trans K2.out
      have y0 := (row_cell hT.box 0).trans (show _ = some (Value.string name) from rfl)
      have y1 := (row_cell hT.box 1).trans (show _ = some (Value.slice Av args.length cv) from rfl)
      have u0 := (row_cell hk2 0).trans (show _ = some (Value.string ⟨#[]⟩) from rfl)
      have u1 := (row_cell hk2 1).trans (show _ = some (Value.slice none 0 0) from rfl)
      have f0 := frozen_of_row wo (w.heap.size + 1) 0 _ _ hk2
      have f1 := frozen_of_row wo (w.heap.size + 1) 1 _ _ hk2
      have HTT := Lib.hid hT
      have HK2 := Lib.hid hk2
      clear hT hk2 HT
      go_wp2
      refine lentC_ret HK2.out ?_ rfl
      exact lentC_end HTT.out HB2.out (by omega) (by have := HB3.out; omega) (by have := HBASE.out; omega)
end Go.Proofs.YtkdedpofghlmoaaGreatDoor
set_option linter.unusedVariables false
set_option linter.unusedSimpArgs false
namespace Go.Proofs.YtkdedpofghlmoaaGreatDoor
open Go.RowKit Go.Proofs.YtkdedpofghlmoaaGreatDoorW.PrintWords
theorem Bel.set {u W : World} (h : Bel u W) {g j : Nat} {v : Value} (hg : u.heap.size ≤ g) : Bel u (W.setCell ⟨g, j, none⟩ v) := ⟨h.out.setCell (p := ⟨g, j, none⟩) (show u.heap.size ≤ g from hg) _⟩
theorem own_set1 {W : World} {base e size n g cap : Nat} {xs : List Value} (h : W.ownsRow base e size (.slice (some ⟨g, 0, none⟩) n cap) n xs) (j : Nat) (u : Value) : (W.setCell ⟨g, j, none⟩ u).ownsRow base e size (.slice (some ⟨g, 0, none⟩) n cap) n (xs.set j u) := by
  obtain ⟨hl, hc⟩ := h
  refine ⟨by rw [List.length_set]; exact hl, ?_⟩
  rcases hc with ⟨hv, _⟩ | ⟨g', cap', cur, hv, hg, hh, h1, h2, h3, h4⟩
  · cases hv
  · cases hv
    refine .inr ⟨g, cap, cur.setIfInBounds j u, rfl, hg, heap_setCell_same W g _ cur e _ hh, h1, h2, by simpa using h3, ?_⟩
    rw [Array.toList_setIfInBounds, List.take_set, h4]
theorem set3_seg (inner : List Value) (i : Nat) (a b c : Value) (h : i * 3 + 3 ≤ inner.length) : inner.take (i * 3) ++ [a, b, c] ++ inner.drop (i * 3 + [a, b, c].length) = ((inner.set (i * 3) a).set (i * 3 + 1) b).set (i * 3 + 2) c := by
  apply List.ext_getElem?
  intro q
  rw [seg_get inner _ _ (by simpa using h)]
  simp only [List.length_cons, List.length_nil, Nat.zero_add]
  by_cases h1 : q < i * 3
  · rw [if_pos h1, List.getElem?_set_ne (by omega), List.getElem?_set_ne (by omega), List.getElem?_set_ne (by omega)]
  · rw [if_neg h1]
    by_cases h2 : q < i * 3 + 3
    · rw [if_pos h2]
      obtain rfl | rfl | rfl : q = i * 3 ∨ q = i * 3 + 1 ∨ q = i * 3 + 2 := by omega
      · rw [List.getElem?_set_ne (by omega), List.getElem?_set_ne (by omega), List.getElem?_set_self (by omega)]
        simp
      · rw [List.getElem?_set_ne (by omega), List.getElem?_set_self (by simp; omega), show i * 3 + 1 - i * 3 = 1 from by omega]
        simp
      · rw [List.getElem?_set_self (by simp; omega), show i * 3 + 2 - i * 3 = 2 from by omega]
        simp
    · rw [if_neg h2, List.getElem?_set_ne (by omega), List.getElem?_set_ne (by omega), List.getElem?_set_ne (by omega)]
/-- A value is laid into a row of values. -/
theorem R_val {u W : World} {base : Nat} {g n cap : Nat} {xs : List Val} (hn : xs.length = n) (h : (kValO u).R 53 W base (fun _ => True) (.slice (some ⟨g, 0, none⟩) n cap) xs) {i : Nat} (hi : i < n) (y : Val) {A2 : Option Addr} {c2 : Nat} (l2 : y.s.length ≤ c2) (g2 : (Kd.int .i64).C u A2 y.s.length y.s) :
    (kValO u).R 53 (((W.setCell ⟨g, i * 3, none⟩ (.bool y.set)).setCell ⟨g, i * 3 + 1, none⟩ (.int .i64 y.n)).setCell ⟨g, i * 3 + 2, none⟩ (.slice A2 y.s.length c2)) base (fun _ => True) (.slice (some ⟨g, 0, none⟩) n cap) (xs.set i y) := by
  subst hn
  obtain ⟨h0, inner, ho, hr⟩ := h
  have hfit : i * 3 + 3 ≤ inner.length := by
    rw [hr.1]
    show i * 3 + 3 ≤ xs.length * 3
    omega
  have hr2 := Kd.reps_set hr hi (kValO_M u W base _ y l2 g2) rfl
  rw [show (kValO u).sz = 3 from rfl, set3_seg inner i _ _ _ hfit] at hr2
  refine ⟨h0, _, ?_, hr2⟩
  rw [List.length_set]
  exact own_set1 (own_set1 (own_set1 ho (i * 3) _) (i * 3 + 1) _) (i * 3 + 2) _
theorem vals_slice {u W : World} {base m : Nat} {v : Value} {ok : Nat → Prop} {x : Val} (h : (kValO u).R 53 W base ok v (List.replicate m x)) (hm : 0 < m) : ∃ g c, v = .slice (some ⟨g, 0, none⟩) m c ∧ base ≤ g := by
  obtain ⟨inner, ho⟩ := Kd.R_own h
  rw [List.length_replicate] at ho
  rcases ho.2 with ⟨_, h2⟩ | ⟨g, cap, cur, h1, hg, _⟩
  · omega
  · exact ⟨g, cap, h1, hg⟩
theorem vals_at {u W : World} {base n g cap : Nat} {xs : List Val} (hn : xs.length = n) (h : (kValO u).R 53 W base (fun _ => True) (.slice (some ⟨g, 0, none⟩) n cap) xs) {m : Nat} (hm : m < n) :
    ∃ cur, W.heap[g]? = some (.cells cur 53 (0, 0)) ∧ ∃ x0 x1 x2, cur[m * 3]? = some x0 ∧ cur[m * 3 + 1]? = some x1 ∧ cur[m * 3 + 2]? = some x2 := by
  obtain ⟨inner, ho⟩ := Kd.R_own h
  rcases ho.2 with ⟨h1, h2⟩ | ⟨g', cap', cur, h1, hg, hh, l1, l2, l3, l4⟩
  · omega
  · cases h1
    rw [show (kValO u).sz = 3 from rfl] at l3
    have e0 : m * 3 < cur.size := by omega
    have e1 : m * 3 + 1 < cur.size := by omega
    have e2 : m * 3 + 2 < cur.size := by omega
    exact ⟨cur, hh, _, _, _, Array.getElem?_eq_getElem e0, Array.getElem?_eq_getElem e1, Array.getElem?_eq_getElem e2⟩
def mapK {α : Type} (f : α → α) (j : Nat) (l : List α) : List α := (l.take j).map f ++ l.drop j
theorem mapK_len {α : Type} (f : α → α) (j : Nat) (l : List α) : (mapK f j l).length = l.length := by simp [mapK]; omega
theorem mapK_all {α : Type} (f : α → α) (l : List α) : mapK f l.length l = l.map f := by simp [mapK]
theorem mapK_get {α : Type} {f : α → α} {j : Nat} {l : List α} {t : α} (h : l[j]? = some t) : (mapK f j l)[j]? = some t := by
  have hj : j < l.length := (List.getElem?_eq_some_iff.1 h).1
  rw [mapK, List.getElem?_append_right (by simp; omega), List.getElem?_drop]
  simp only [List.length_map, List.length_take]
  rw [show j + (j - min j l.length) = j from by omega]
  exact h
theorem mapK_set {α : Type} {f : α → α} {j : Nat} {l : List α} {t : α} (h : l[j]? = some t) : (mapK f j l).set j (f t) = mapK f (j + 1) l := by
  have hj : j < l.length := (List.getElem?_eq_some_iff.1 h).1
  rw [mapK, List.set_append_right _ _ (by simp; omega), mapK, take_snoc h, drop_at h]
  simp only [List.length_map, List.length_take, List.map_append, List.map_cons, List.map_nil, List.append_assoc]
  rw [show j - min j l.length = 0 from by omega]
  rfl
theorem mapK_same {α : Type} {f : α → α} {j : Nat} {l : List α} {t : α} (h : l[j]? = some t) (hf : f t = t) : mapK f (j + 1) l = mapK f j l := by
  rw [← mapK_set h, hf]
  apply List.ext_getElem?
  intro q
  by_cases hq : j = q
  · subst hq
    rw [List.getElem?_set_self (by rw [mapK_len]; exact (List.getElem?_eq_some_iff.1 h).1), mapK_get h]
  · rw [List.getElem?_set_ne hq]
theorem set_self {α : Type} {l : List α} {k : Nat} {a : α} (h : l[k]? = some a) : l.set k a = l := by
  apply List.ext_getElem?
  intro q
  by_cases hq : k = q
  · subst hq
    rw [List.getElem?_set_self (List.getElem?_eq_some_iff.1 h).1, h]
  · rw [List.getElem?_set_ne hq]
theorem own_cell {W : World} {base e size n g cap : Nat} {xs : List Value} (h : W.ownsRow base e size (.slice (some ⟨g, 0, none⟩) n cap) n xs) {j : Nat} (hj : j < n * size) : W.cell? ⟨g, j, none⟩ = xs[j]? := by
  rcases h.2 with ⟨hv, _⟩ | ⟨g', cap', cur, hv, hg, hh, h1, h2, h3, h4⟩
  · cases hv
  · cases hv
    rw [row_cell hh, ← h4, List.getElem?_take, if_pos hj]
    simp
/-- What Renamed has in memory while the variables' numbers are turned. -/
structure RenAt (u wl W : World) (b9 base wb gw cw m : Nat) (name : ByteArray) (Av : Option Addr) (cv n : Nat) (cs : List Value) (top : Nat) (vals : List Val) (args : List Arg) : Prop where
  bel : Bel wl W
  box : W.heap[b9]? = some (.cells #[.string name, .slice Av n cv] 24 (0, 0))
  own : W.ownsRow base 62 2 (.slice Av n cv) n cs
  lent : LentCs W base base top args cs
  vals : (kValO u).R 53 W wb (fun _ => True) (.slice (some ⟨gw, 0, none⟩) m cw) vals
theorem RenAt.put {u wl W : World} {b9 base wb gw cw m : Nat} {name : ByteArray} {Av : Option Addr} {cv n : Nat} {cs : List Value} {top : Nat} {vals : List Val} {args : List Arg} (h : RenAt u wl W b9 base wb gw cw m name Av cv n cs top vals args) (hb : wl.heap.size ≤ base)
    {i k : Nat} {a : Arg} {t : Term} (hi : args[i]? = some a) (hk : a.l[k]? = some t) (x : Int) : ∃ g cap cur, cs[i * 2 + 1]? = some (.slice (some ⟨g, 0, none⟩) a.l.length cap) ∧ W.heap[g]? = some (.cells cur 64 (0, 0)) ∧ cur[k * 4]? = some (.int .i64 t.var) ∧
      RenAt u wl (W.setCell ⟨g, k * 4, none⟩ (.int .i64 x)) b9 base wb gw cw m name Av cv n cs top vals (args.set i ⟨a.array, a.l.set k ⟨x, t.c⟩⟩) := by
  obtain ⟨g, cap, cur, e1, e2, e3, e4, e5, e6⟩ := LentCs.put (x := x) h.lent hi hk
  refine ⟨g, cap, cur, e1, e4, e5, Bel.set h.bel (by omega), ?_, ?_, e6, ?_⟩
  · rw [heap_setCell_other _ _ _ _ (show b9 ≠ g from fun e => by
      have h1 := h.box
      rw [e, e4] at h1
      exact absurd h1 (by simp))]
    exact h.box
  · refine own_setCell h.own (p := ⟨g, k * 4, none⟩) (fun e => ?_) _
    obtain ⟨cells, hc⟩ := own_typed h.own g e.symm
    rw [e4] at hc
    exact absurd hc (by simp)
  · exact Kd.R_set h.vals e4 (by intro q hq; simp [kValO, kOld, Kd.iso, Kd.pair, Kd.int, Kd.bool, Kd.scalar] at hq; omega) (k * 4) _
/-- The new values, behind k of them. -/
def putL (s : Nat) (vs : List Val) : Nat → List Val
  | 0 => List.replicate vs.length ⟨false, 0, []⟩
  | k + 1 => (putL s vs k).set ((k + s) % vs.length) (vs.getD k ⟨false, 0, []⟩)
theorem putL_len (s : Nat) (vs : List Val) : ∀ k, (putL s vs k).length = vs.length
  | 0 => by simp [putL]
  | k + 1 => by rw [putL, List.length_set, putL_len s vs k]
def renT (s n : Nat) (t : Term) : Term := if 0 ≤ t.var ∧ t.var < n then ⟨(t.var + s) % n, t.c⟩ else t
def renA (s n : Nat) (a : Arg) : Arg := ⟨a.array, a.l.map (renT s n)⟩
def shiftN (n : Nat) (b : Int) : Nat := (b % n).toNat
theorem shift_facts {n : Nat} {b : Int} {s : Nat} (hn : 0 < n) (hs : shiftN n b = s) : s < n ∧ (b.tmod n < 0 → b.tmod n + n = s) ∧ (0 ≤ b.tmod n → b.tmod n = s) ∧ -(n : Int) < b.tmod n ∧ b.tmod n < n := by
  have h0 : (n : Int) ≠ 0 := by omega
  have h1 := Int.emod_nonneg b h0
  have h2 := Int.emod_lt_of_pos b (show (0 : Int) < n by omega)
  have h3 : (s : Int) = b % n := by
    rw [← hs, shiftN, Int.toNat_of_nonneg h1]
  have h4 := Int.tmod_eq_emod (a := b) (b := (n : Int))
  rw [Int.natAbs_natCast] at h4
  split at h4
  · simp only [Int.sub_zero, Int.natCast_zero] at h4
    omega
  · omega
theorem tmod_nat (a n : Nat) : (a : Int).tmod n = ((a % n : Nat) : Int) := by
  rw [Int.tmod_eq_emod_of_nonneg (Int.natCast_nonneg a)]
  simp
theorem RenAt.drew {u wl W : World} {b9 base wb gw cw m : Nat} {name : ByteArray} {Av : Option Addr} {cv n : Nat} {cs : List Value} {top : Nat} {vals : List Val} {args : List Arg} (h : RenAt u wl W b9 base wb gw cw m name Av cv n cs top vals args) : RenAt u wl W.drew b9 base wb gw cw m name Av cv n cs top vals args :=
  ⟨Bel.drew _ _ (h := h.bel), h.box, h.own, LentCs.move h.lent (fun _ _ _ => rfl), Kd.R_move h.vals (fun _ _ => rfl)⟩
theorem LentCs.reps {W : World} {base lo top : Nat} {args : List Arg} {cs : List Value} (h : LentCs W base lo top args cs) : Reps (kArg.K W) 2 args cs := by
  refine ⟨LentCs.len h, fun j a ha => ?_⟩
  obtain ⟨sv, lo', hi, c0, c1, _, _, _, hr⟩ := LentCs.nth h ha
  obtain ⟨A1, c, rfl, hle, hC⟩ := Kd.R_reads hr
  rw [show (cs.drop (j * 2)).take 2 = [.bool a.array, .slice A1 a.l.length c] from by
    have hj := (List.getElem?_eq_some_iff.1 c1).1
    rw [drop_at c0, drop_at c1]
    rfl]
  exact kArg_mk W a hle hC
theorem f34_ret {W : World} {g : Nat} {tm : Array Value} {a b x y v : Value} {R : Ending → World → Prop} (h : W.heap[g]? = some (.cells #[a, b] 24 (0, 0))) (hR : R (.returned (.tuple #[.agg #[x, y], v])) ((W.setCell ⟨g, 0, none⟩ x).setCell ⟨g, 1, none⟩ y)) (ht : tm.getD 6 undef = .pointer (some ⟨g, 0, none⟩)) (hv : tm.getD 7 undef = v) :
    bodyPost Tryz.prog Tryz.f34 R Exit.ret { tmps := tm, defers := [] } ((W.setCell ⟨g, 0, none⟩ x).setCell ⟨g, 1, none⟩ y) := by
  subst hv
  refine bodyPost_ret (v := .tuple #[.agg #[x, y], tm.getD 7 undef]) (results_ct (fn := Tryz.f34) (p := 6) (u := 7) (ty := 24) rfl _ _ _ 24 _ (0, 0) _ ht (set2 h) Tryz.underlying24 rfl size24) rfl hR
def RenPost (u : World) (name : ByteArray) (args : List Arg) (vs : List Val) (s : Nat) (e : Ending) (w' : World) : Prop :=
  ∃ Av cv Bv dv, e = .returned (.tuple #[.agg #[.string name, .slice Av args.length cv], .slice Bv vs.length dv]) ∧ kArg.C w' Av args.length (args.map (renA s vs.length)) ∧ kVal.C w' Bv vs.length (putL s vs vs.length) ∧ Bel u w'
theorem ren_end {w wl W : World} {b6 base wb cv top n : Nat} {name : ByteArray} {Av : Option Addr} {cs : List Value} {vals : List Val} {args args' : List Arg} {vs : List Val} {s : Nat} {vv x y : Value} (hw : Bel w wl) (hbel : Bel wl W) (hb : w.heap.size ≤ b6) (hb2 : b6 < wl.heap.size) (hbb : wl.heap.size ≤ base)
    (ho : W.ownsRow base 62 2 (.slice Av n cv) n cs) (hl : LentCs W base base top args' cs) (hr : (kValO w).R 53 W wb (fun _ => True) vv vals) (hwb : wl.heap.size ≤ wb) (ha : args' = args.map (renA s vs.length)) (hv : vals = putL s vs vs.length) (hn : n = args.length) :
    ∃ Bv dv, vv = .slice Bv vs.length dv ∧ RenPost w name args vs s (.returned (.tuple #[.agg #[.string name, .slice Av args.length cv], .slice Bv vs.length dv])) ((W.setCell ⟨b6, 0, none⟩ x).setCell ⟨b6, 1, none⟩ y) := by
  subst hn
  have hne : some b6 ≠ (Value.slice Av args.length cv).ownBlock := fun e => by have := own_base ho b6 e.symm; omega
  have ho2 := own_setCell (own_setCell ho (p := ⟨b6, 0, none⟩) hne x) (p := ⟨b6, 1, none⟩) hne y
  have hl2 : LentCs ((W.setCell ⟨b6, 0, none⟩ x).setCell ⟨b6, 1, none⟩ y) base base top args' cs := LentCs.move hl (fun k hk _ => by
    have h2 : k ≠ b6 := by omega
    rw [heap_setCell_other _ _ _ _ h2, heap_setCell_other _ _ _ _ h2])
  have hr2 : (kValO w).R 53 ((W.setCell ⟨b6, 0, none⟩ x).setCell ⟨b6, 1, none⟩ y) wb (fun _ => True) vv vals := Kd.R_mono (Kd.R_move (Kd.R_bound hr) (fun k hk => by
    have h2 : k ≠ b6 := by
      have := hk.2.1
      omega
    rw [heap_setCell_other _ _ _ _ h2, heap_setCell_other _ _ _ _ h2])) (fun _ _ => trivial)
  have hB : Bel w ((W.setCell ⟨b6, 0, none⟩ x).setCell ⟨b6, 1, none⟩ y) := ⟨((hw.trans hbel).out.setCell (p := ⟨b6, 0, none⟩) (show w.heap.size ≤ b6 from hb) _).setCell (p := ⟨b6, 1, none⟩) (show w.heap.size ≤ b6 from hb) _⟩
  obtain ⟨Bv, dv, rfl, hle, hC⟩ := Kd.R_reads hr2
  have hlen : vals.length = vs.length := by rw [hv, putL_len]
  obtain ⟨A', c', e, hA⟩ := own_reads_row ho2 (LentCs.reps hl2) (by rw [ha, List.length_map])
  injection e with e1 e2 e3
  subst e1
  refine ⟨Bv, dv, by rw [hlen], Av, cv, Bv, dv, rfl, ?_, ?_, hB⟩
  · rw [← ha]
    exact hA
  · rw [← hv, ← hlen]
    exact kValO_C hC hB
theorem renA_zero (s : Nat) (a : Arg) : renA s 0 a = a := by
  rw [renA, show a.l.map (renT s 0) = a.l from by
    rw [List.map_congr_left (g := id) (fun t _ => by rw [renT, if_neg (by omega)]; rfl), List.map_id]]
set_option maxRecDepth 100000 in
set_option maxHeartbeats 4000000 in
theorem law_Renamed (name : ByteArray) (A : Option Addr) (c : Nat) (args : List Arg) (B : Option Addr) (d : Nat) (vs : List Val) (b : Int) (w : World) (ha : kArg.C w A args.length args) (hv : kVal.C w B vs.length vs) (hn : args.length ≤ 1048576) (hl : ∀ a ∈ args, a.l.length ≤ 1048576 ∧ ∀ t ∈ a.l, t.c.s.length ≤ 1048576)
    (hvn : vs.length ≤ 1048576) (hb : in64 b = true) : Calls Tryz.prog 34 #[.agg #[.string name, .slice A args.length c], .slice B vs.length d, .int .i64 b] w (RenPost w name args vs (shiftN vs.length b)) := by
  have HA := Lib.hid ha
  have HV := Lib.hid hv
  have HL := Lib.hid hl
  have HB := Lib.hid hb
  clear ha hv hl hb
  by_cases h0 : vs.length = 0
  · obtain rfl := List.eq_nil_of_length_eq_zero h0
    go_enter Tryz.func34, Tryz.ntmps34
    go_wp2_with fail
    refine (law_Lent name A c args _ (Kd.now HA.out inferInstance) hn HL.out).mono ?_
    rintro e1 w1 ⟨base, v, cs, top, hbase, rfl, hown, hlent, htop, HB1⟩
    obtain ⟨Av, cv, rfl⟩ : ∃ Av cv, v = .slice Av args.length cv := by
      rcases hown.2 with ⟨h1, h2⟩ | ⟨g, cap, cur, h1, _⟩
      · exact ⟨none, 0, by rw [h2]; exact h1⟩
      · exact ⟨_, _, h1⟩
    go_upto_region 3 with fail
    obtain ⟨wl, hwl⟩ : ∃ wl, (w.alloc (.cells #[.string name, .slice A args.length c] 24)).alloc (.cells #[.string ⟨#[]⟩, .slice none 0 0] 24) = wl := ⟨_, rfl⟩
    have k6 : wl.heap[w.heap.size + 1]? = some (.cells #[.string ⟨#[]⟩, .slice none 0 0] 24 (0, 0)) := hwl ▸ heap_alloc2_new w _ _
    have Bl : Bel w wl := hwl ▸ inferInstance
    rw [hwl] at hbase HB1
    obtain ⟨wm, hwm⟩ : ∃ wm, w1.alloc (.cells #[.string name, .slice Av args.length cv] 24) = wm := ⟨_, rfl⟩
    have k9 : wm.heap[w1.heap.size]? = some (.cells #[.string name, .slice Av args.length cv] 24 (0, 0)) := hwm ▸ heap_alloc_new _ _
    have B1m : Bel w1 wm := hwm ▸ inferInstance
    rw [hwm]
    have HOWN := Lib.hid (own_move hown (fun q hq => B1m.out.block q (own_lt hown q hq)))
    have HLENT := Lib.hid (LentCs.move hlent (fun q _ hq => B1m.out.block q (by omega)))
    have HTOP := Lib.hid (Nat.le_trans htop B1m.out.size)
    have K9 := Lib.hid k9
    have K6 := Lib.hid k6
    have Bm : Bel w wm := (Bl.trans HB1).trans B1m
    have HBL := Lib.hid Bl
    have HBLM := Lib.hid (HB1.trans B1m)
    have HBASE := Lib.hid hbase
    have HMW := Lib.hid (show w1.heap.size < wm.heap.size from blk_lt k9)
    clear hwl hwm hown hlent htop HB1 B1m k9 k6 Bl hbase
    go_wp2_with (at_make; refine Kd.R_make (kValO w) (w0 := wm) wm.heap.size 53 rfl rfl 25 (.tmp 19) (.tmp 19) rfl (0 : Int) rfl rfl Tryz.underlying25 (.agg #[.bool false, .int .i64 0, .slice none 0 0]) 40 info53 rfl (Nat.succ_pos 2) (by decide) ⟨false, 0, []⟩ (ok := fun _ => True) (okp := fun _ => True) (kValO_M w wm _ _ ⟨false, 0, []⟩ (A2 := none) (c2 := 0) (by simp) (Kd.C_nil _ _)) (fun _ _ => trivial) trivial (by omega) (by decide) (Below.refl _ _) (Nat.le_refl _) ?_; intro vw ww hrw hbw hgw hatw;  have qm : Bel wm ww := ⟨hbw⟩; have hk9 := (hbw.block _ (blk_lt K9.out)).trans K9.out; have bx : Bel wl ww := HBLM.out.trans qm; have hk6 := (bx.out.block _ (blk_lt K6.out)).trans K6.out; have x0 := (row_cell hk9 0).trans (show _ = some (Value.string name) from rfl); have x1 := (row_cell hk9 1).trans (show _ = some (Value.slice Av args.length cv) from rfl); have u0 := (row_cell hk6 0).trans (show _ = some (Value.string ⟨#[]⟩) from rfl); have u1 := (row_cell hk6 1).trans (show _ = some (Value.slice none 0 0) from rfl); have f0 := frozen_of_row ww (w.heap.size + 1) 0 _ _ hk6; have f1 := frozen_of_row ww (w.heap.size + 1) 1 _ _ hk6; have HK6 := Lib.hid hk6; have HRW := Lib.hid hrw; have HQM := Lib.hid qm; have HBX := Lib.hid bx; clear hk6 hk9 hrw qm bx hbw hgw hatw)
    obtain ⟨Bv, dv, hvv, hp⟩ := ren_end (s := shiftN ([] : List Val).length b) (name := name) (args := args) (vs := []) (x := .string name) (y := .slice Av args.length cv) HBL.out HBX.out (Nat.le_succ _) (blk_lt K6.out) HBASE.out (own_move HOWN.out (fun q hq => HQM.out.out.block q (own_lt HOWN.out q hq))) (LentCs.move HLENT.out (fun q _ hq => HQM.out.out.block q (by have := HTOP.out; omega))) HRW.out (Nat.le_trans HBLM.out.out.size (Nat.le_refl _)) (by rw [show ([] : List Val).length = 0 from rfl, List.map_congr_left (g := id) (fun a _ => renA_zero _ a), List.map_id]) rfl rfl
    refine f34_ret HK6.out ?_ rfl rfl
    rw [hvv]
    exact hp
  · have h0' : ((vs.length : Int) == 0) = false := by
      rw [beq_eq_false_iff_ne]
      omega
    go_enter Tryz.func34, Tryz.ntmps34
    go_wp2_with fail
    refine (law_Lent name A c args _ (Kd.now HA.out inferInstance) hn HL.out).mono ?_
    rintro e1 w1 ⟨base, v, cs, top, hbase, rfl, hown, hlent, htop, HB1⟩
    obtain ⟨Av, cv, rfl⟩ : ∃ Av cv, v = .slice Av args.length cv := by
      rcases hown.2 with ⟨h1, h2⟩ | ⟨g, cap, cur, h1, _⟩
      · exact ⟨none, 0, by rw [h2]; exact h1⟩
      · exact ⟨_, _, h1⟩
    go_upto_region 3 with fail
    obtain ⟨wl, hwl⟩ : ∃ wl, (w.alloc (.cells #[.string name, .slice A args.length c] 24)).alloc (.cells #[.string ⟨#[]⟩, .slice none 0 0] 24) = wl := ⟨_, rfl⟩
    have k6 : wl.heap[w.heap.size + 1]? = some (.cells #[.string ⟨#[]⟩, .slice none 0 0] 24 (0, 0)) := hwl ▸ heap_alloc2_new w _ _
    have Bl : Bel w wl := hwl ▸ inferInstance
    rw [hwl] at hbase HB1
    obtain ⟨wm, hwm⟩ : ∃ wm, w1.alloc (.cells #[.string name, .slice Av args.length cv] 24) = wm := ⟨_, rfl⟩
    have k9 : wm.heap[w1.heap.size]? = some (.cells #[.string name, .slice Av args.length cv] 24 (0, 0)) := hwm ▸ heap_alloc_new _ _
    have B1m : Bel w1 wm := hwm ▸ inferInstance
    rw [hwm]
    have HOWN := Lib.hid (own_move hown (fun q hq => B1m.out.block q (own_lt hown q hq)))
    have HLENT := Lib.hid (LentCs.move hlent (fun q _ hq => B1m.out.block q (by omega)))
    have HTOP := Lib.hid (Nat.le_trans htop B1m.out.size)
    have K9 := Lib.hid k9
    have K6 := Lib.hid k6
    have Bm : Bel w wm := (Bl.trans HB1).trans B1m
    have HBL := Lib.hid Bl
    have HBLM := Lib.hid (HB1.trans B1m)
    have HBASE := Lib.hid hbase
    have HMW := Lib.hid (show w1.heap.size < wm.heap.size from blk_lt k9)
    clear hwl hwm hown hlent htop HB1 B1m k9 k6 Bl hbase
    obtain ⟨s, hs⟩ : ∃ s, shiftN vs.length b = s := ⟨_, rfl⟩
    obtain ⟨hsl, hs1, hs2, hs3, hs4⟩ := shift_facts (n := vs.length) (b := b) (s := s) (by omega) hs
    have hw32 : wrap64 (b.tmod vs.length + vs.length) = b.tmod vs.length + vs.length := IntWalk.wrap64_in _ (by omega)
    go_upto_if 29 with (at_make; refine Kd.R_make (kValO w) (w0 := wm) wm.heap.size 53 rfl rfl 25 (.tmp 19) (.tmp 19) rfl (vs.length : Int) rfl rfl Tryz.underlying25 (.agg #[.bool false, .int .i64 0, .slice none 0 0]) 40 info53 rfl (Nat.succ_pos 2) (by decide) ⟨false, 0, []⟩ (ok := fun _ => True) (okp := fun _ => True) (kValO_M w wm _ _ ⟨false, 0, []⟩ (A2 := none) (c2 := 0) (by simp) (Kd.C_nil _ _)) (fun _ _ => trivial) trivial (by omega) (by rw [Int.toNat_natCast]; omega) (Below.refl _ _) (Nat.le_refl _) ?_; intro vw ww hrw hbw hgw hatw; rw [Int.toNat_natCast] at hrw; obtain ⟨gw, cw, rfl, hgw1⟩ := vals_slice hrw (by omega))
    go_cut [2] from 30 to 32 (fun x wx => x = .int .i64 s ∧ wx = ww)
    case first =>
      go_wp2_with fail
      all_goals go_meet
      · exact ⟨rfl, rfl⟩
      · exact ⟨by rw [hs2 (by assumption)], rfl⟩
    case rest =>
      obtain ⟨rfl, rfl⟩ := hcut
      have HS := Lib.hid hs
      have HRW := Lib.hid hrw
      have HBW : Hid (Bel wm wc) := Lib.hid ⟨hbw⟩
      clear hs hs1 hs2 hs3 hs4 hw32 hrw hbw hgw hatw
      go_wp2_with fail
      go_loopw [11] (fun i wr => ∃ (k : Nat), k ≤ vs.length ∧ i = .int .i64 k ∧ Hid ((kValO w).R 53 wr wm.heap.size (fun _ => True) (.slice (some ⟨gw, 0, none⟩) vs.length cw) (putL s vs k)) ∧ Hid (Bel wm wr)) (fun i _ => vs.length - (intOf i).toNat)
      case atStart => exact ⟨0, Nat.zero_le _, rfl, Lib.hid (by rw [putL]; exact HRW.out), HBW⟩
      case round =>
        obtain ⟨k, hk, rfl, HR, HBk⟩ := hrel
        by_cases hlt : k < vs.length
        · obtain ⟨y, hy⟩ : ∃ r, vs[k]? = some r := ⟨vs[k], List.getElem?_eq_getElem hlt⟩
          obtain ⟨vd, A2, c2, rfl, v0, v1, v2, hl2, hC2⟩ := Val.nth HV.out hy
          obtain ⟨m, hm⟩ : ∃ m, (k + s) % vs.length = m := ⟨_, rfl⟩
          have hml : m < vs.length := by rw [← hm]; exact Nat.mod_lt _ (by omega)
          have hadd : wrap64 ((k : Int) + s) = (k : Int) + s := IntWalk.wrap64_in _ (by omega)
          have hrem : ((k : Int) + s).tmod vs.length = (m : Int) := by
            rw [← hm, ← Int.natCast_add, tmod_nat]
          have hrem2 : ((k : Int) + s) % vs.length = (m : Int) := by
            rw [← hm]
            simp
          have hmi : (m : Int) < (vs.length : Int) := by omega
          obtain ⟨cur, hh, x0, x1, x2, hx0, hx1, hx2⟩ := vals_at (putL_len s vs k) HR.out hml
          have u0 := fun (V : World) [h : Bel w V] => h.cell v0
          have u1 := fun (V : World) [h : Bel w V] => h.cell v1
          have u2 := fun (V : World) [h : Bel w V] => h.cell v2
          have g0 := fun (V : World) [h : Bel wr V] => h.cell ((row_cell hh (m * 3)).trans hx0)
          have g1 := fun (V : World) [h : Bel wr V] => h.cell ((row_cell hh (m * 3 + 1)).trans hx1)
          have g2 := fun (V : World) [h : Bel wr V] => h.cell ((row_cell hh (m * 3 + 2)).trans hx2)
          have f0 := fun (V : World) [h : Bel wr V] => frozen_of_row V gw (m * 3) _ _ ((h.out.block _ (blk_lt hh)).trans hh)
          have f1 := fun (V : World) [h : Bel wr V] => frozen_of_row V gw (m * 3 + 1) _ _ ((h.out.block _ (blk_lt hh)).trans hh)
          have f2 := fun (V : World) [h : Bel wr V] => frozen_of_row V gw (m * 3 + 2) _ _ ((h.out.block _ (blk_lt hh)).trans hh)
          have bw : Bel w wr := Bm.trans HBk.out
          have HC2 := Lib.hid hC2
          have HY := Lib.hid hy
          have HM := Lib.hid hm
          clear hy hC2 hm hh hx0 hx1 hx2 v0 v1 v2
          go_upto_region 12 with fail
          go_region
          all_goals go_wp2_with fail
          all_goals
            refine ⟨⟨k + 1, by omega, by simp, Lib.hid ?_, Lib.hid ?_⟩, by simp [intOf]; omega⟩
            · have hget : vs.getD k ⟨false, 0, []⟩ = y := by rw [List.getD_eq_getElem?_getD, HY.out]; rfl
              rw [putL, HM.out, hget]
              exact R_val (putL_len s vs k) HR.out hml y hl2 HC2.out
            · exact Bel.drew _ _ (h := Bel.set (Bel.set (Bel.set HBk.out hgw1) hgw1) hgw1)
        · obtain rfl : k = vs.length := by omega
          have hR0 : RenAt w wl wr w1.heap.size base wm.heap.size gw cw vs.length name Av cv args.length cs top (putL s vs vs.length) (mapK (renA s vs.length) 0 args) :=
            ⟨HBLM.out.trans HBk.out, (HBk.out.out.block _ (blk_lt K9.out)).trans K9.out, own_move HOWN.out (fun q hq => HBk.out.out.block q (own_lt HOWN.out q hq)), LentCs.move HLENT.out (fun q _ hq => HBk.out.out.block q (by have := HTOP.out; omega)), HR.out⟩
          have HR0 := Lib.hid hR0
          clear hR0 HR HBk HBW HRW HOWN HLENT HTOP K9
          go_wp2_with fail
          go_loopw [12] (fun i wx => ∃ (k : Nat), k ≤ args.length ∧ i = .int .i64 k ∧ Hid (RenAt w wl wx w1.heap.size base wm.heap.size gw cw vs.length name Av cv args.length cs top (putL s vs vs.length) (mapK (renA s vs.length) k args))) (fun i _ => args.length - (intOf i).toNat)
          case atStart => exact ⟨0, Nat.zero_le _, rfl, HR0⟩
          case round =>
            obtain ⟨wo, hwo⟩ : ∃ wo, wo = wr := ⟨_, rfl⟩
            subst hwo
            obtain ⟨k, hk, rfl, HT⟩ := hrel
            have y9 := (row_cell HT.out.box 1).trans (show _ = some (Value.slice Av args.length cv) from rfl)
            by_cases hlt : k < args.length
            · obtain ⟨a, hr⟩ : ∃ r, args[k]? = some r := ⟨args[k], List.getElem?_eq_getElem hlt⟩
              obtain ⟨gv, rfl⟩ : ∃ gv, Av = some ⟨gv, 0, none⟩ := by
                rcases HT.out.own.2 with ⟨_, h2⟩ | ⟨g, cap, cur, h1, _⟩
                · omega
                · cases h1
                  exact ⟨g, rfl⟩
              obtain ⟨sv, lo', hi', c0, c1', _, _, _, hrow⟩ := LentCs.nth HT.out.lent (mapK_get hr)
              obtain ⟨As, cS, rfl⟩ := Kd.R_slice hrow
              have HC1 := Lib.hid c1'
              have hal := (HL.out a (List.mem_of_getElem? hr)).1
              have HAK := Lib.hid hr
              clear hrow c0 c1' hr
              go_wp2_with fail
              go_loopw [13] (fun i wx => ∃ (j : Nat), j ≤ a.l.length ∧ i = .int .i64 j ∧ Hid (RenAt w wl wx w1.heap.size base wm.heap.size gw cw vs.length name (some ⟨gv, 0, none⟩) cv args.length cs top (putL s vs vs.length) ((mapK (renA s vs.length) k args).set k ⟨a.array, mapK (renT s vs.length) j a.l⟩))) (fun i _ => a.l.length - (intOf i).toNat)
              case atStart =>
                refine ⟨0, Nat.zero_le _, rfl, Lib.hid ?_⟩
                rw [show (⟨a.array, mapK (renT s vs.length) 0 a.l⟩ : Arg) = a from by simp [mapK], set_self (mapK_get HAK.out)]
                exact HT.out
              case round =>
                obtain ⟨j, hj, rfl, HS2⟩ := hrel
                have z9 := (row_cell HS2.out.box 1).trans (show _ = some (Value.slice (some ⟨gv, 0, none⟩) args.length cv) from rfl)
                have zs := (own_cell HS2.out.own (j := k * 2 + 1) (by omega)).trans HC1.out
                clear y9
                by_cases hlj : j < a.l.length
                · obtain ⟨t, hr⟩ : ∃ r, a.l[j]? = some r := ⟨a.l[j], List.getElem?_eq_getElem hlj⟩
                  obtain ⟨x, hx⟩ : ∃ x, (t.var + s) % (vs.length : Int) = x := ⟨_, rfl⟩
                  have hset : ((mapK (renA s vs.length) k args).set k ⟨a.array, mapK (renT s vs.length) j a.l⟩)[k]? = some ⟨a.array, mapK (renT s vs.length) j a.l⟩ := List.getElem?_set_self (by rw [mapK_len]; exact hlt)
                  obtain ⟨g, cap, cur, e1, e4, e5, hput⟩ := RenAt.put HS2.out (show wl.heap.size ≤ base from HBASE.out) hset (mapK_get hr) x
                  rw [HC1.out] at e1
                  obtain ⟨rfl, rfl⟩ : As = some ⟨g, 0, none⟩ ∧ cS = cap := by
                    injection e1 with e1
                    injection e1 with h1 h2 h3
                    exact ⟨h1, h3⟩
                  have hs4 : wr.cell? ⟨g, j * 4, none⟩ = some (.int .i64 t.var) := (row_cell e4 (j * 4)).trans e5
                  have hf4 := frozen_of_row wr g (j * 4) _ _ e4
                  have HPUT := Lib.hid hput
                  have HTR := Lib.hid hr
                  have hji : (j : Int) < (a.l.length : Int) := by omega
                  have hki : (k : Int) < (args.length : Int) := by omega
                  clear hput hr hset e1 e4 e5
                  by_cases hc : 0 ≤ t.var ∧ t.var < (vs.length : Int)
                  · obtain ⟨p1, p2⟩ := hc
                    have hadd : wrap64 (t.var + s) = t.var + s := IntWalk.wrap64_in _ (by omega)
                    have hrem : (t.var + (s : Int)).tmod vs.length = x := by rw [Int.tmod_eq_emod_of_nonneg (Int.add_nonneg p1 (Int.natCast_nonneg s)), hx]
                    have HX := Lib.hid (show renT s vs.length t = ⟨x, t.c⟩ from by rw [renT, if_pos ⟨p1, p2⟩, hx])
                    go_upto_region 21 with fail
                    go_region
                    all_goals go_wp2_with fail
                    all_goals
                      refine ⟨⟨j + 1, by omega, by simp, Lib.hid ?_⟩, by simp [intOf]; omega⟩
                      have h := HPUT.out
                      rw [List.set_set, ← HX.out] at h
                      simp only [] at h
                      rw [mapK_set HTR.out] at h
                      exact h.drew
                  · have HX := Lib.hid (show renT s vs.length t = t from by rw [renT, if_neg hc])
                    by_cases h1 : 0 ≤ t.var
                    · have h2 : ¬ t.var < (vs.length : Int) := fun h => hc ⟨h1, h⟩
                      go_wp2
                      go_roundw
                      case rel => exact ⟨j + 1, by omega, by go_num, Lib.hid (by rw [mapK_same HTR.out HX.out]; exact HS2.out)⟩
                      case measure => simp [intOf]; omega
                    · go_wp2
                      go_roundw
                      case rel => exact ⟨j + 1, by omega, by go_num, Lib.hid (by rw [mapK_same HTR.out HX.out]; exact HS2.out)⟩
                      case measure => simp [intOf]; omega
                · obtain rfl : j = a.l.length := by omega
                  have HN := Lib.hid (show RenAt w wl wr w1.heap.size base wm.heap.size gw cw vs.length name (some ⟨gv, 0, none⟩) cv args.length cs top (putL s vs vs.length) (mapK (renA s vs.length) (k + 1) args) from by
                    have h := HS2.out
                    rw [mapK_all, show (⟨a.array, a.l.map (renT s vs.length)⟩ : Arg) = renA s vs.length a from rfl, mapK_set HAK.out] at h
                    exact h)
                  go_wp2
                  go_roundw
                  case rel => exact ⟨k + 1, by omega, by go_num, HN⟩
                  case measure => simp [intOf]; omega
            · obtain rfl : k = args.length := by omega
              have HW := Lib.hid HR0.out.vals
              have hT := HT.out
              rw [mapK_all] at hT
              have hk6 := (hT.bel.out.block _ (blk_lt K6.out)).trans K6.out
              have x0 := (row_cell hT.box 0).trans (show _ = some (Value.string name) from rfl)
              have u0 := (row_cell hk6 0).trans (show _ = some (Value.string ⟨#[]⟩) from rfl)
              have u1 := (row_cell hk6 1).trans (show _ = some (Value.slice none 0 0) from rfl)
              have f0 := frozen_of_row wo (w.heap.size + 1) 0 _ _ hk6
              have f1 := frozen_of_row wo (w.heap.size + 1) 1 _ _ hk6
              have HTT := Lib.hid hT
              have HK6 := Lib.hid hk6
              clear hT hk6 HT HR0
              go_wp2
              obtain ⟨Bv, dv, hvv, hp⟩ := ren_end (s := shiftN vs.length b) (name := name) (args := args) (vs := vs) (x := .string name) (y := .slice Av args.length cv) HBL.out HTT.out.bel (Nat.le_succ _) (blk_lt K6.out) HBASE.out HTT.out.own HTT.out.lent HTT.out.vals (Nat.le_trans HBLM.out.out.size (Nat.le_refl _)) (by rw [HS.out]) (by rw [HS.out]) rfl
              refine f34_ret HK6.out ?_ rfl rfl
              injection hvv with q1 q2 q3
              rw [q1, q3]
              exact hp
end Go.Proofs.YtkdedpofghlmoaaGreatDoor
