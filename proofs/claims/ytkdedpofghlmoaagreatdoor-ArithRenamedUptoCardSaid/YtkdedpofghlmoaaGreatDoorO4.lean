/- A law's contract where it leaves what it was given as it was. No statement is proved here. -/
import Derived.Test.YtkdedpofghlmoaaGreatDoorB0
import Derived.Test.YtkdedpofghlmoaaGreatDoorRows
import Derived.Deep.Slices
import Derived.Deep.Strs
import Derived.ChangeSame
import Derived.ReadAgain
import Derived.WalkKit
import Derived.ProofKit
import Derived.OpenShut
set_option linter.unusedVariables false
set_option linter.unusedSimpArgs false
set_option maxRecDepth 20000
namespace Go.Proofs.YtkdedpofghlmoaaGreatDoor
open Go.RowKit Go.ChangeShapes Go.WideShapes Go.Proofs.YtkdedpofghlmoaaGreatDoorW.PrintWords
theorem bulk_one {H : Type} (d : DataW H) : 1 ≤ Rows.uptoBulk d := by
  cases d with
  | lit l => cases l <;> simp [Rows.uptoBulk]
  | nil => simp [Rows.uptoBulk]
  | ptr d => simp [Rows.uptoBulk]
  | slice elems spare => simp [Rows.uptoBulk]
  | agg parts => simp [Rows.uptoBulk]
  | iface t d => simp [Rows.uptoBulk]
  | map entries => simp [Rows.uptoBulk]
  | held h => simp [Rows.uptoBulk]
theorem bulk_part {H : Type} {d : DataW H} {l : List (DataW H)} (h : d ∈ l) : Rows.uptoBulk d ≤ Rows.uptoBulkAll l := by
  induction l with
  | nil => cases h
  | cons x r ih =>
    simp only [Rows.uptoBulkAll]
    cases List.mem_cons.1 h with
    | inl e => subst e; omega
    | inr e => have := ih e; omega
theorem bulk_len {H : Type} (l : List (DataW H)) : l.length ≤ Rows.uptoBulkAll l := by
  induction l with
  | nil => simp [Rows.uptoBulkAll]
  | cons x r ih => have := bulk_one x; simp only [Rows.uptoBulkAll, List.length_cons]; omega
theorem addr_add_add (a : Addr) (x y : Nat) : (a.add x).add y = a.add (x + y) := by
  unfold Addr.add
  by_cases hx : x = 0
  · subst hx
    simp
  · by_cases hy : y = 0
    · subst hy
      simp [hx]
    · simp [hx, hy, Nat.add_assoc]
/-- What is read as data of type t is, in memory, of kind d; and no more than its bulk. -/
structure Op {α : Type} (t : TypeId) (d : Kd α) (lim : Nat → α → Prop) : Prop where
  mono : ∀ b b' p, b ≤ b' → lim b p → lim b' p
  opens : ∀ (H : Type) (enc : TypeId × Value → H) (w : World) (base : Nat) (spare : Nat → Bool) (held : Bool) (fuel : Nat) (cs : List Value) (x : DataW H × List MemPlace), DataW.trod enc Tryz.prog w base spare held fuel t cs = some x → ∃ p, d.K w p cs ∧ lim (Rows.uptoBulk x.1) p
theorem op_bool {t : TypeId} (ht : Tryz.prog.underlying t = some .bool) : Op t Kd.bool (fun _ _ => True) := by
  refine ⟨fun _ _ _ _ h => h, fun H enc w base spare held fuel cs x h => ?_⟩
  obtain ⟨b, rfl, _⟩ := DataW.trod_bool ht h
  exact ⟨b, rfl, trivial⟩
theorem op_int {t : TypeId} (ht : Tryz.prog.underlying t = some (.int .i64)) : Op t (Kd.int .i64) (fun _ n => (Lit.int .i64 n).wf = true) := by
  refine ⟨fun _ _ _ _ h => h, fun H enc w base spare held fuel cs x h => ?_⟩
  obtain ⟨b, rfl, _, hw⟩ := DataW.trod_int ht h
  exact ⟨b, rfl, hw⟩
theorem op_string {t : TypeId} (ht : Tryz.prog.underlying t = some .string) : Op t Kd.string (fun b s => s.size ≤ b) := by
  refine ⟨fun _ _ _ h h2 => Nat.le_trans h2 h, fun H enc w base spare held fuel cs x h => ?_⟩
  obtain ⟨b, rfl, rfl, hw⟩ := DataW.trod_string ht h
  refine ⟨b, rfl, ?_⟩
  simp only [Rows.uptoBulk, Array.length_toList]
  exact Nat.le_succ _
theorem op_slice {α : Type} {t e : TypeId} {d : Kd α} {lim : Nat → α → Prop} (h : Op e d lim) (hd : ∃ x : α, True) (ht : Tryz.prog.underlying t = some (.slice e)) (hc : Tryz.prog.cellsOf e = d.sz) : Op t (Kd.slice e d) (fun b xs => xs.length ≤ b ∧ ∀ x ∈ xs, lim b x) := by
  refine ⟨fun b b' p hb hp => ⟨Nat.le_trans hp.1 hb, fun x hx => h.mono _ _ _ hb (hp.2 x hx)⟩, fun H enc w base spare held fuel cs x hx => ?_⟩
  rcases Go.Deep.open_slice ht hx with ⟨rfl, rfl⟩ | ⟨a, len, cap, m, n, D, Pl, rfl, hb, hl, hm, hmm, rfl, hall⟩
  · exact ⟨[], ⟨none, 0, rfl, Nat.le_refl _, Kd.C_nil _ _⟩, Nat.zero_le _, fun x hx => by cases hx⟩
  · have hlm : len ≤ m := by rw [hmm]; split <;> omega
    have key : ∀ i, ∃ p, i < len → ∃ cs', w.cells? base (a.add (i * Tryz.prog.cellsOf e)) (Tryz.prog.cellsOf e) = some cs' ∧ d.K w p cs' ∧ lim (Rows.uptoBulk (D i)) p := by
      intro i
      by_cases hi : i < len
      · obtain ⟨cs', h1, h2⟩ := hall i (by omega)
        obtain ⟨p, h3, h4⟩ := h.opens _ _ _ _ _ _ _ _ _ h2
        exact ⟨p, fun _ => ⟨cs', h1, h3, h4⟩⟩
      · obtain ⟨x, _⟩ := hd
        exact ⟨x, fun hi' => absurd hi' hi⟩
    obtain ⟨p, hp⟩ := Classical.axiomOfChoice key
    have hlen : ((List.range len).map p).length = len := by simp
    have hbulk : Rows.uptoBulkAll ((List.range len).map D) ≤ Rows.uptoBulk (.slice ((List.range len).map D) ((List.range (m - len)).map fun j => D (len + j))) := by
      simp only [Rows.uptoBulk]
      omega
    refine ⟨(List.range len).map p, ⟨some a, cap, by rw [hlen], by rw [hlen]; exact hl, ?_⟩, ?_, ?_⟩
    · have hml : maxLen ≤ 9223372036854775807 := by decide
      refine ⟨rfl, by rw [hlen]; exact Nat.le_trans hl (Nat.le_trans hm hml), fun _ => ⟨a, rfl, fun j q hq => ?_⟩⟩
      rw [List.getElem?_map] at hq
      obtain ⟨i, hi, rfl⟩ := Option.map_eq_some_iff.1 hq
      obtain ⟨hlt, hi2⟩ := List.getElem?_eq_some_iff.1 hi
      simp only [List.length_range] at hlt
      simp only [List.getElem_range] at hi2
      subst hi2
      obtain ⟨cs', h1, h2, _⟩ := hp j hlt
      obtain ⟨_, h3, h4⟩ := World.cells?_some h1
      refine ⟨cs', by rw [h3, hc], h2, fun i u hu => ?_⟩
      have hi3 := (List.getElem?_eq_some_iff.1 hu).1
      have h5 := h4 i (by omega)
      rw [addr_add_add, hc, hu] at h5
      exact h5
    · rw [hlen]
      refine Nat.le_trans ?_ hbulk
      refine Nat.le_trans (Nat.le_of_eq ?_) (bulk_len _)
      simp
    · intro q hq
      obtain ⟨i, hi, rfl⟩ := List.mem_map.1 hq
      have hi' := List.mem_range.1 hi
      obtain ⟨_, _, _, h4⟩ := hp i hi'
      exact h.mono _ _ _ (Nat.le_trans (bulk_part (List.mem_map.2 ⟨i, hi, rfl⟩)) hbulk) h4
theorem take_all {l : List Value} {n m : Nat} (h : l.length = n) (hm : n ≤ m) : l.take m = l := List.take_of_length_le (by omega)
theorem op_two {α β : Type} {t : TypeId} {f0 f1 : Field} {a : Kd α} {b : Kd β} {la : Nat → α → Prop} {lb : Nat → β → Prop} (ht : Tryz.prog.underlying t = some (.struct #[f0, f1])) (ha : Op f0.type a la) (hb : Op f1.type b lb) (o0 : f0.offset = 0) (o1 : f1.offset = a.sz) (c0 : Tryz.prog.cellsOf f0.type = a.sz) (c1 : Tryz.prog.cellsOf f1.type = b.sz) (ct : Tryz.prog.cellsOf t = a.sz + b.sz) :
    Op t (Kd.pair a b) (fun n p => la n p.1 ∧ lb n p.2) := by
  refine ⟨fun b b' p h hp => ⟨ha.mono _ _ _ h hp.1, hb.mono _ _ _ h hp.2⟩, fun H enc w base spare held fuel cs x h => ?_⟩
  obtain ⟨y0, y1, n, rfl, hl, h0, h1⟩ := trod_struct2 ht h
  rw [o0, c0, List.drop_zero] at h0
  rw [o1, c1, take_all (n := b.sz) (by rw [List.length_drop, hl, ct]; omega) (Nat.le_refl _)] at h1
  obtain ⟨p0, k0, l0⟩ := ha.opens _ _ _ _ _ _ _ _ _ h0
  obtain ⟨p1, k1, l1⟩ := hb.opens _ _ _ _ _ _ _ _ _ h1
  refine ⟨(p0, p1), ⟨cs.take a.sz, cs.drop a.sz, (List.take_append_drop _ _).symm, k0, k1⟩, ha.mono _ _ _ ?_ l0, hb.mono _ _ _ ?_ l1⟩
  · simp only [Rows.uptoBulk, Rows.uptoBulkAll]; omega
  · simp only [Rows.uptoBulk, Rows.uptoBulkAll]; omega
theorem op_three {α β γ : Type} {t : TypeId} {f0 f1 f2 : Field} {a : Kd α} {b : Kd β} {c : Kd γ} {la : Nat → α → Prop} {lb : Nat → β → Prop} {lc : Nat → γ → Prop} (ht : Tryz.prog.underlying t = some (.struct #[f0, f1, f2])) (ha : Op f0.type a la) (hb : Op f1.type b lb) (hc : Op f2.type c lc) (o0 : f0.offset = 0) (o1 : f1.offset = a.sz) (o2 : f2.offset = a.sz + b.sz)
    (c0 : Tryz.prog.cellsOf f0.type = a.sz) (c1 : Tryz.prog.cellsOf f1.type = b.sz) (c2 : Tryz.prog.cellsOf f2.type = c.sz) (ct : Tryz.prog.cellsOf t = a.sz + (b.sz + c.sz)) :
    Op t (Kd.pair a (Kd.pair b c)) (fun n p => la n p.1 ∧ lb n p.2.1 ∧ lc n p.2.2) := by
  refine ⟨fun b b' p h hp => ⟨ha.mono _ _ _ h hp.1, hb.mono _ _ _ h hp.2.1, hc.mono _ _ _ h hp.2.2⟩, fun H enc w base spare held fuel cs x h => ?_⟩
  obtain ⟨y0, y1, y2, n, rfl, hl, h0, h1, h2⟩ := Go.Deep.trod_struct3 ht h
  rw [o0, c0, List.drop_zero] at h0
  rw [o1, c1] at h1
  rw [o2, c2, take_all (n := c.sz) (by rw [List.length_drop, hl, ct]; omega) (Nat.le_refl _)] at h2
  obtain ⟨p0, k0, l0⟩ := ha.opens _ _ _ _ _ _ _ _ _ h0
  obtain ⟨p1, k1, l1⟩ := hb.opens _ _ _ _ _ _ _ _ _ h1
  obtain ⟨p2, k2, l2⟩ := hc.opens _ _ _ _ _ _ _ _ _ h2
  rw [← List.drop_drop] at k2
  refine ⟨(p0, p1, p2), ⟨cs.take a.sz, cs.drop a.sz, (List.take_append_drop _ _).symm, k0, ⟨(cs.drop a.sz).take b.sz, (cs.drop a.sz).drop b.sz, (List.take_append_drop _ _).symm, k1, k2⟩⟩, ha.mono _ _ _ ?_ l0, hb.mono _ _ _ ?_ l1, hc.mono _ _ _ ?_ l2⟩
  · simp only [Rows.uptoBulk, Rows.uptoBulkAll]; omega
  · simp only [Rows.uptoBulk, Rows.uptoBulkAll]; omega
  · simp only [Rows.uptoBulk, Rows.uptoBulkAll]; omega
theorem op_iso {α β : Type} {t : TypeId} {d : Kd α} {lim : Nat → α → Prop} (h : Op t d lim) (f : β → α) (g : α → β) (hfg : ∀ x, f (g x) = x) : Op t (Kd.iso d f) (fun n p => lim n (f p)) := by
  refine ⟨fun b b' p hb hp => h.mono _ _ _ hb hp, fun H enc w base spare held fuel cs x hx => ?_⟩
  obtain ⟨p, h1, h2⟩ := h.opens _ _ _ _ _ _ _ _ _ hx
  exact ⟨g p, show d.K w (f (g p)) cs by rw [hfg]; exact h1, by rw [hfg]; exact h2⟩
theorem oc2 : Tryz.prog.cellsOf 2 = 1 := by kernel_rfl
theorem oc3 : Tryz.prog.cellsOf 3 = 1 := by kernel_rfl
theorem oc4 : Tryz.prog.cellsOf 4 = 1 := by kernel_rfl
theorem oc9 : Tryz.prog.cellsOf 9 = 1 := by kernel_rfl
theorem oc22 : Tryz.prog.cellsOf 22 = 1 := by kernel_rfl
theorem oc24 : Tryz.prog.cellsOf 24 = 2 := by kernel_rfl
theorem oc47 : Tryz.prog.cellsOf 47 = 1 := by kernel_rfl
theorem oc53 : Tryz.prog.cellsOf 53 = 3 := by kernel_rfl
theorem oc60 : Tryz.prog.cellsOf 60 = 1 := by kernel_rfl
theorem oc62 : Tryz.prog.cellsOf 62 = 2 := by kernel_rfl
theorem oc64 : Tryz.prog.cellsOf 64 = 4 := by kernel_rfl
theorem op_ints : Op 47 (Kd.slice 2 (Kd.int .i64)) (fun b xs => xs.length ≤ b ∧ ∀ x ∈ xs, (Lit.int .i64 x).wf = true) := op_slice (op_int Tryz.underlying2) ⟨0, trivial⟩ Tryz.underlying47 oc2
def limV (b : Nat) (v : Val) : Prop := (Lit.int .i64 v.n).wf = true ∧ v.s.length ≤ b ∧ ∀ x ∈ v.s, (Lit.int .i64 x).wf = true
theorem op_val : Op 53 kVal limV := by
  have h := op_iso (op_three Tryz.underlying53 (op_bool Tryz.underlying4) (op_int Tryz.underlying2) op_ints rfl rfl rfl oc4 oc2 oc47 oc53) (fun x : Val => (x.set, x.n, x.s)) (fun p => ⟨p.1, p.2.1, p.2.2⟩) (fun _ => rfl)
  exact ⟨fun b b' p hb hp => (h.mono b b' p hb ⟨trivial, hp⟩).2, fun H enc w base spare held fuel cs x hx => (h.opens H enc w base spare held fuel cs x hx).imp fun p hp => ⟨hp.1, hp.2.2⟩⟩
theorem op_vals : Op 25 (Kd.slice 53 kVal) (fun b xs => xs.length ≤ b ∧ ∀ x ∈ xs, limV b x) := op_slice op_val ⟨⟨false, 0, []⟩, trivial⟩ Tryz.underlying25 oc53
def limT (b : Nat) (t : Term) : Prop := (Lit.int .i64 t.var).wf = true ∧ limV b t.c
theorem op_term : Op 64 kTerm limT := op_iso (op_two Tryz.underlying64 (op_int Tryz.underlying3) op_val rfl rfl oc3 oc53 oc64) (fun x : Term => (x.var, x.c)) (fun p => ⟨p.1, p.2⟩) (fun _ => rfl)
def limA (b : Nat) (a : Arg) : Prop := a.l.length ≤ b ∧ ∀ t ∈ a.l, limT b t
theorem op_arg : Op 62 kArg limA := by
  have h := op_iso (op_two Tryz.underlying62 (op_bool Tryz.underlying4) (op_slice op_term ⟨⟨0, ⟨false, 0, []⟩⟩, trivial⟩ Tryz.underlying60 oc64) rfl rfl oc4 oc60 oc62) (fun x : Arg => (x.array, x.l)) (fun p => ⟨p.1, p.2⟩) (fun _ => rfl)
  exact ⟨fun b b' p hb hp => (h.mono b b' p hb ⟨trivial, hp⟩).2, fun H enc w base spare held fuel cs x hx => (h.opens H enc w base spare held fuel cs x hx).imp fun p hp => ⟨hp.1, hp.2.2⟩⟩
theorem op_con : Op 24 (Kd.pair Kd.string (Kd.slice 62 kArg)) (fun b p => p.1.size ≤ b ∧ p.2.length ≤ b ∧ ∀ a ∈ p.2, limA b a) :=
  op_two Tryz.underlying24 (op_string Tryz.underlying9) (op_slice op_arg ⟨⟨false, []⟩, trivial⟩ Tryz.underlying22 oc62) rfl rfl oc9 oc22 oc24
/-- A constraint that is read as data. -/
theorem con_of {H : Type} {enc : TypeId × Value → H} {w : World} {base : Nat} {spare : Nat → Bool} {held : Bool} {v : Value} {d : DataW H} {ps : List MemPlace} (h : DataW.Trod enc Tryz.prog w base spare held 24 v d ps) (hv : ∃ cs, v = .agg cs) :
    ∃ name A c args, v = .agg #[.string name, .slice A args.length c] ∧ kArg.C w A args.length args ∧ args.length ≤ c ∧ args.length ≤ Rows.uptoBulk d ∧ ∀ a ∈ args, limA (Rows.uptoBulk d) a := by
  obtain ⟨n, h⟩ := h
  obtain ⟨⟨name, args⟩, ⟨c0, c1, e, rfl, ⟨A, c, rfl, hl, hC⟩⟩, _, h2, h3⟩ := op_con.opens _ _ _ _ _ _ _ _ _ h
  obtain ⟨cs, rfl⟩ := hv
  refine ⟨name, A, c, args, ?_, hC, hl, h2, h3⟩
  congr 1
  apply Array.toList_inj.1
  exact e
theorem vals_of {H : Type} {enc : TypeId × Value → H} {w : World} {base : Nat} {spare : Nat → Bool} {held : Bool} {v : Value} {d : DataW H} {ps : List MemPlace} (h : DataW.Trod enc Tryz.prog w base spare held 25 v d ps) (hv : ∃ A n c, v = .slice A n c) :
    ∃ A c vs, v = .slice A vs.length c ∧ kVal.C w A vs.length vs ∧ vs.length ≤ c ∧ vs.length ≤ Rows.uptoBulk d ∧ ∀ x ∈ vs, limV (Rows.uptoBulk d) x := by
  obtain ⟨n, h⟩ := h
  obtain ⟨vs, ⟨A, c, e, hl, hC⟩, h2, h3⟩ := op_vals.opens _ _ _ _ _ _ _ _ _ h
  obtain ⟨A', n', c', rfl⟩ := hv
  refine ⟨A, c, vs, ?_, hC, hl, h2, h3⟩
  simpa [Value.cells] using e
end Go.Proofs.YtkdedpofghlmoaaGreatDoor
set_option linter.unusedVariables false
set_option linter.unusedSimpArgs false
set_option maxRecDepth 100000
namespace Go.Proofs.YtkdedpofghlmoaaGreatDoor
open Go.ChangeShapes Go.WideShapes Go.ChangeAt Go.RowKit
theorem laid_out : laidOutB Tryz.prog = true := by kernel_rfl
theorem maps_rowed : mapsRowed Tryz.prog = true := by kernel_rfl
theorem slices_full : ∀ t e, t < Tryz.prog.types.size → Tryz.prog.underlying t = some (.slice e) → 0 < Tryz.prog.cellsOf e := slices_full_of _ (by kernel_rfl)
theorem trodAll_carry {H : Type} {enc : TypeId × Value → H} {w w' : World} {base : Nat} {spare : Nat → Bool} {held : Bool} : ∀ {ts : List TypeId} {vs : List Value} {ds : List (DataW H)} {ps : List MemPlace}, DataW.TrodAll enc Tryz.prog w base spare held ts vs ds ps → (∀ p ∈ ps, w.sameAt w' p) → DataW.TrodAll enc Tryz.prog w' base spare held ts vs ds ps
  | [], [], [], _, h, _ => h
  | _ :: _, _ :: _, _ :: _, _, ⟨p, q, ⟨n, h1⟩, h2, e⟩, hs => ⟨p, q, ⟨n, DataW.trod_carry _ _ _ _ h1 (fun x hx => hs x (by rw [e]; exact List.mem_append_left _ hx))⟩, trodAll_carry h2 (fun x hx => hs x (by rw [e]; exact List.mem_append_right _ hx)), e⟩
theorem post_true {H : Type} {enc : TypeId × Value → H} {fn : Func} {s : ChangeSpec} {W W' : World} {args : Array Value} {ds gs : List (DataW H)} {before : List MemPlace} (hW : DataW.Whole enc Tryz.prog fn.params.toList s.vars false W args.toList ds gs before) (hvars : s.vars = [])
    (hts : ∀ t ∈ fn.params.toList, t < Tryz.prog.types.size) (hr : fn.resultTypes = #[4]) (hs : s.fn H (ds ++ gs) = { results := [.lit (.bool true)], args := ds }) (hb : Bel W W') : s.post enc Tryz.prog fn false true false false W args (.bool true) W' := by
  have hW' := hW
  have hlt := hW.lt
  obtain ⟨p, q, hA, hV, rfl, hfz, hnd⟩ := hW
  rw [hvars] at hV
  obtain ⟨rfl, rfl⟩ := trodVars_none hV
  have hsame : ∀ x ∈ p ++ [], W.sameAt W' x := by
    intro x hx
    have h := hlt x hx
    cases x with
    | cell b off => exact hb.out.cell (p := ⟨b, off, none⟩) h
    | map b => exact hb.out.block b h
  have hA' : DataW.TrodAll enc Tryz.prog W' 0 (fun b => decide (b < W.heap.size)) true fn.params.toList args.toList ds p :=
    trodAll_carry (DataW.TrodAll.respare (kids_rows laid_out maps_rowed) slices_full hts hA (fun x hx => by simpa using hlt x (by simpa using hx))) (fun x hx => hsame x (by simpa using hx))
  have hp0 : p ++ [] = p := List.append_nil p
  refine ⟨ds, [], p ++ [], [], p, [], hW', ?_, ?_, ?_, hb.out.frame _, fun h => by cases h⟩
  · rw [hs, hr]
    exact trodAll_mk1 (shut_bool Tryz.underlying4 _)
  · rw [hs]
    exact hA'
  · rw [hs, hvars]
    rfl
end Go.Proofs.YtkdedpofghlmoaaGreatDoor
