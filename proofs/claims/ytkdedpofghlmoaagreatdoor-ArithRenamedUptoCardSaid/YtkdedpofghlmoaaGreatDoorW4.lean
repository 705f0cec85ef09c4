/- The walk of Work.last over one open variable of which one value is left. No statement is proved here. -/
import Derived.Test.YtkdedpofghlmoaaGreatDoorW1
import Derived.Test.YtkdedpofghlmoaaGreatDoorE2
import Derived.Test.YtkdedpofghlmoaaGreatDoorI5
import Derived.Laws.EntriesVeiled
set_option linter.unusedVariables false
set_option linter.unusedSimpArgs false
namespace Go.Proofs.YtkdedpofghlmoaaGreatDoor
open Go.RowKit Go.Proofs.YtkdedpofghlmoaaGreatDoorW.PrintWords
attribute [local go_sem] Oper.semAt_some
set_option maxHeartbeats 400000 in
theorem dom_Each' (A : Option Addr) (c : Nat) (l : List Rng) (w : World) (hc : l.length ≤ c) (hr : kRng.C w A l.length l) :
    Calls Tryz.prog 182 #[.slice A l.length c] w fun e w' => ∃ g A1 c1, e = .returned (.func (.func 245) #[] #[.pointer (some ⟨g, 0, none⟩)]) ∧ w'.heap[g]? = some (.cells #[.slice A1 (takenL l).length c1] 46 (0, 0)) ∧ kRng.C w' A1 (takenL l).length (takenL l) ∧ w.heap.size ≤ g ∧ Bel w w' ∧ (∀ ad, A1 = some ad → ∃ cells, w'.heap[ad.block]? = some (.cells cells 101 (0, 0))) := by
  have HR := Lib.hid hr
  clear hr
  have hlen := takenL_len l
  go_enter Tryz.func182, Tryz.ntmps182
  go_wp2_with fail
  refine (dom_taken _ _ _ _ hc HR.out).mono ?_
  rintro e w1 ⟨A1, c1, rfl, hl1, hr1, HB1⟩
  have HR1 := Lib.hid hr1
  clear hr1
  go_wp2_with fail
  refine (clone_Rng _ _ _ _ HR1.out (by omega)).mono ?_
  rintro e w2 ⟨v, rfl, HO⟩
  obtain ⟨A2, c2, rfl, hl2, hr2⟩ := HO.reads
  have HR2 := Lib.hid hr2
  have hty : ∀ ad, A2 = some ad → ∃ cells, w2.heap[ad.block]? = some (.cells cells 101 (0, 0)) := by
    intro ad e
    subst e
    obtain ⟨inner, hw⟩ := Kd.R_own HO.own
    exact own_typed hw _ rfl
  have HTY := Lib.hid hty
  clear hr2 hty
  go_wp2
  go_ret
  refine ⟨_, A2, c2, rfl, ?_, Kd.now HR2.out inferInstance, ?_, (HB1.trans HO.bel).trans inferInstance, ?_⟩
  · exact heap_alloc_new _ _
  · have := (HB1.trans HO.bel).out.size
    omega
  · intro ad e
    obtain ⟨cells, hc⟩ := HTY.out ad e
    exact ⟨cells, (heap_alloc_old _ _ (blk_lt hc)).trans hc⟩
theorem heap_at {w : World} {o : Obj} {i : Nat} (h : w.heap.size = i) : (w.alloc o).heap[i]? = some o := by
  subst h
  exact heap_alloc_new _ _
theorem heap_old {w : World} {o : Obj} {i : Nat} {r : Option Obj} (h : i < w.heap.size) (k : w.heap[i]? = r) : (w.alloc o).heap[i]? = r := (heap_alloc_old _ _ h).trans k
theorem leftAt_own {u : World} {b4 b5 b6 b7 b10 g gv mf cv : Nat} {vout : Value} {out : List Val} {y : Int} {W W' : World} {row : Option Nat} (h : LeftAt u W b4 b5 b6 b7 b10 g gv mf cv vout out y) (hg : W.grownBy W' row) (hr : ∀ r, row = some r → u.heap.size ≤ r ∧ ∃ o : Obj, W.heap[r]? = some o ∧ o.isCells = false) :
    LeftAt u W' b4 b5 b6 b7 b10 g gv mf cv vout out y := by
  have k : ∀ (k : Nat) (cs : Array Value) (t : TypeId), W.heap[k]? = some (Obj.cells cs t (0, 0)) → W'.heap[k]? = some (Obj.cells cs t (0, 0)) := by
    intro k cs t hk
    refine (hg.block k (blk_lt hk) (fun e => ?_)).trans hk
    obtain ⟨_, o, ho, hc⟩ := hr k e.symm
    rw [hk] at ho
    cases ho
    cases hc
  have hb : Bel u W' := ⟨h.bel.out.grown hg h.bel.out.size (fun r e => (hr r e).1)⟩
  refine ⟨hb, k _ _ _ h.x4, k _ _ _ h.x5, k _ _ _ h.x6, k _ _ _ h.x7, k _ _ _ h.x10, k _ _ _ h.row, AccV.move h.out hb (fun j hj => ?_), h.lg, h.l10, h.nov, h.n610⟩
  obtain ⟨inner, hw⟩ := Kd.R_own h.out.own
  obtain ⟨cells, hc⟩ := own_typed hw j hj
  exact (k _ _ _ hc).trans hc.symm
/-- What a round of the search leaves as it was. -/
theorem try_keeps {u W W' : World} {b4 b5 b6 b7 b10 g gv mf cv : Nat} {vout : Value} {out : List Val} {y : Int} (h : LeftAt u W b4 b5 b6 b7 b10 g gv mf cv vout out y) (hk : ∀ k, k < W.heap.size → k ≠ gv → k ≠ b10 → some k ≠ vout.ownBlock → W'.heap[k]? = W.heap[k]?) :
    ∀ (k : Nat) (o : Obj), W.heap[k]? = some o → (∀ cs : Array Value, o ≠ Obj.cells cs 53 (0, 0)) → (∀ cs : Array Value, o ≠ Obj.cells cs 25 (0, 0)) → W'.heap[k]? = some o := by
  intro k o ho h1 h2
  refine (hk k (blk_lt ho) ?_ ?_ ?_).trans ho
  · intro e
    subst e
    exact h1 _ (Option.some.inj (ho.symm.trans h.row))
  · intro e
    subst e
    exact h2 _ (Option.some.inj (ho.symm.trans (show W.heap[k]? = some (.cells #[vout] 25 (0, 0)) from h.x10)))
  · intro e
    obtain ⟨inner, hw⟩ := Kd.R_own h.out.own
    obtain ⟨cells, hc⟩ := own_typed hw k e.symm
    exact h1 _ (Option.some.inj (ho.symm.trans hc))
abbrev cloV (h : Nat) : Value := .func (.func 242) #[] #[.pointer (some ⟨h + 1 + 1, 0, none⟩), .pointer (some ⟨h + 1, 0, none⟩), .pointer (some ⟨h, 0, none⟩), .pointer (some ⟨h + 1 + 1 + 1, 0, none⟩), .pointer (some ⟨h + 1 + 1 + 1 + 1 + 1 + 1, 0, none⟩)]
def leftL (p : Int → Bool) (l : List Int) : List Val := l.flatMap fun x => if p x = true then [⟨false, x, []⟩] else []
theorem try_keeps2 {u W W' : World} {b4 b5 b6 b7 b10 g gv mf cv : Nat} {vout : Value} {out : List Val} {y : Int} (h : LeftAt u W b4 b5 b6 b7 b10 g gv mf cv vout out y) (hk : ∀ k, k < W.heap.size → k ≠ gv → k ≠ b10 → some k ≠ vout.ownBlock → W'.heap[k]? = W.heap[k]?) :
    ∀ (k : Nat) (cs : Array Value) (t : TypeId), W.heap[k]? = some (Obj.cells cs t (0, 0)) → t ≠ 53 → k ≠ b10 → W'.heap[k]? = some (Obj.cells cs t (0, 0)) := by
  intro k cs t ho h1 h2
  refine (hk k (blk_lt ho) ?_ h2 ?_).trans ho
  · intro e
    subst e
    have := Option.some.inj (ho.symm.trans h.row)
    injection this with _ e2
    exact h1 e2
  · intro e
    obtain ⟨inner, hw⟩ := Kd.R_own h.out.own
    obtain ⟨cells, hc⟩ := own_typed hw k e.symm
    have := Option.some.inj (ho.symm.trans hc)
    injection this with _ e2
    exact h1 e2
theorem leftL_snoc (p : Int → Bool) (pre : List Int) (x : Int) : leftL p (pre ++ [x]) = leftL p pre ++ keepL (p x) 0 x := by
  unfold leftL keepL
  rw [List.flatMap_append]
  cases hp : p x <;> simp [hp]
theorem leftL_len (p : Int → Bool) : ∀ l : List Int, (leftL p l).length ≤ l.length
  | [] => Nat.le_refl _
  | x :: l => by
    have := leftL_len p l
    unfold leftL at this ⊢
    rw [List.flatMap_cons, List.length_append, List.length_cons]
    split <;> simp at this ⊢ <;> omega
def RetLeft (u w : World) (gv : Nat) (ok : Bool) (r : List Val) (e : Int) (e' : Ending) (W' : World) : Prop :=
  (if ok = true then ∃ A c, e' = .returned (.tuple #[.slice A r.length c, .int .i64 0]) ∧ r.length ≤ c ∧ kVal.C W' A r.length r else e' = .returned (.tuple #[.slice none 0 0, .int .i64 e])) ∧ Bel u W'
theorem results_left {tm : Array Value} {W : World} {b8 b9 : Nat} {v8 v9 : Value} (h8 : tm.getD 8 undef = .pointer (some ⟨b8, 0, none⟩)) (h9 : tm.getD 9 undef = .pointer (some ⟨b9, 0, none⟩)) (c8 : W.cell? ⟨b8, 0, none⟩ = some v8) (c9 : W.cell? ⟨b9, 0, none⟩ = some v9) :
    (results Tryz.f175 tm).run Tryz.prog W = .ok (.tuple #[v8, v9]) W := by
  have hr : Tryz.f175.results = #[.cell 8 25, .cell 9 27] := rfl
  have h8' : tm[8]?.getD undef = .pointer (some ⟨b8, 0, none⟩) := by simpa using h8
  have h9' : tm[9]?.getD undef = .pointer (some ⟨b9, 0, none⟩) := by simpa using h9
  simp only [results, hr]
  simp [go_sem, h8', h9', asAddr, c8, c9]
theorem kvalNo {W : World} {D k : Nat} {cs : Array Value} {t : TypeId} (hK : W.heap[D]? = some (.deferred (some []))) (hk : W.heap[k]? = some (.cells cs t (0, 0))) : k ≠ D := by
  intro e
  subst e
  rw [hK] at hk
  cases hk
set_option maxRecDepth 100000 in
set_option maxHeartbeats 4000000 in
theorem work_left {u : World} {n : ByteArray} {A : Option Addr} {c : Nat} {ch fl : Bool} {args : List Arg} {mf g : Nat} {y : Int} {ok : Bool} {p : Int → Bool} {e : Int} {dd : Addr} {dc : Nat} {RA : Option Addr} {l : List Rng} {rc : Nat}
    (hlc : l.length ≤ rc) (hR : kRng.C u RA l.length l) (d0 : u.cell? dd = some (.bool false)) (d1 : u.cell? ⟨dd.block, dd.off + 1, none⟩ = some (.slice RA l.length rc))
    (hml : ML u) (ha : kArg.C u A args.length args) (hal : ∀ a ∈ args, a.l.length ≤ 1000) (han : args.length ≤ 1000)
    (htr : truthsL n = []) (hf : (findR n).form.size < 4294967281) (hp : ∀ p ∈ partsL (findR n).form, p.size ≤ 1000) (hw : u.heap[g]? = some (.cells (workC n (.slice A args.length c) (.slice (some dd) 1 dc) ch fl) 126 (0, 0)))
    (HM : ∀ x, MeansIs mf n (valuesL [⟨false, x, []⟩] args) (p x) (if ok = true then 0 else e)) (he : (e == 0) = false) (hne : ok = false → vals (takenL l) ≠ []) (hvl : (vals (takenL l)).length ≤ 1000000)
    {gv cv : Nat} (W : World) (hb : Bel u W) (hrow : W.heap[gv]? = some (.cells (valC y) 53 (0, 0))) (hgv : u.heap.size ≤ gv) :
    Calls Tryz.prog 175 #[.pointer (some ⟨g, 0, none⟩), .int .i64 0, .slice (some ⟨gv, 0, none⟩) 1 cv, .func (.func mf) #[] #[]] W (RetLeft u W gv ok (leftL p (vals (takenL l))) e) := by
  have hmf : ∀ (fn : Fn) (first cap : Array Value) (w : World), (Instr.makeFunc fn first cap).run Tryz.prog w = .ok (.func fn first cap) w := fun _ _ _ _ => rfl
  have yw := (hb.out.block _ (blk_lt hw)).trans hw
  have w2 : ∀ (V : World) [Bel W V], V.cell? ⟨g, 2, none⟩ = some (.slice (some dd) 1 dc) := fun V h => h.cell (row_cell yw 2)
  have w3 : ∀ (V : World) [Bel W V], V.cell? dd = some (.bool false) := fun V h => h.cell (hb.cell d0)
  have w4 : ∀ (V : World) [Bel W V], V.cell? ⟨dd.block, dd.off + 1, none⟩ = some (.slice RA l.length rc) := fun V h => h.cell (hb.cell d1)
  have HR := Lib.hid hR
  have HML := Lib.hid hml
  have HA := Lib.hid ha
  have HAL := Lib.hid hal
  have HT := Lib.hid htr
  have HP := Lib.hid hp
  have HW := Lib.hid hw
  have HMM := Lib.hid HM
  have HE := Lib.hid he
  have HNE := Lib.hid hne
  have HVL := Lib.hid hvl
  have HB := Lib.hid hb
  have HROW := Lib.hid hrow
  have HGV := Lib.hid hgv
  clear hR d0 d1 hml ha hal htr hp hw HM he hne hvl hb hrow hgv yw
  refine (callsIn_wide (n := 3)).1 ?_
  refine callsIn_of_wp_marks Tryz.func175 rfl trivial ?_ rfl
  simp only [Tryz.ntmps175, List.size_toArray, List.length_cons, List.length_nil, Nat.reduceAdd, Nat.reduceSub, Array.replicate_succ, Array.replicate_zero, List.push_toArray, List.append_toArray, List.nil_append, List.cons_append]
  refine wpIn_wide.2 ?_
  obtain ⟨h, hh⟩ : ∃ h, W.heap.size = h := ⟨_, rfl⟩
  go_upto_region 3 with fail
  obtain ⟨W8, hW8⟩ : ∃ W8, ((((((((W).alloc (.cells #[.pointer (some ⟨g, 0, none⟩)] 124)).alloc (.cells #[.int .i64 0] 3)).alloc (.cells #[.slice (some ⟨gv, 0, none⟩) 1 cv] 25)).alloc (.cells #[.func (.func mf) #[] #[]] 112)).alloc (.cells #[.slice none 0 0] 25)).alloc (.cells #[.int .i64 0] 27)).alloc (.cells #[.slice none 0 0] 25)).alloc (.cells #[.func (.func 242) #[] #[.pointer (some ⟨h + 1 + 1, 0, none⟩), .pointer (some ⟨h + 1, 0, none⟩), .pointer (some ⟨h, 0, none⟩), .pointer (some ⟨h + 1 + 1 + 1, 0, none⟩), .pointer (some ⟨h + 1 + 1 + 1 + 1 + 1 + 1, 0, none⟩)]] 222) = W8 := ⟨_, rfl⟩
  rw [hW8]
  have e4 : W8.heap[h]? = some (.cells #[.pointer (some ⟨g, 0, none⟩)] 124 (0, 0)) := by
    rw [← hW8]
    repeat (first | exact heap_at (by first | omega | (simp only [World.size_alloc]; omega)) | refine heap_old (by simp only [World.size_alloc]; omega) ?_)
  have e5 : W8.heap[h + 1]? = some (.cells #[.int .i64 0] 3 (0, 0)) := by
    rw [← hW8]
    repeat (first | exact heap_at (by first | omega | (simp only [World.size_alloc]; omega)) | refine heap_old (by simp only [World.size_alloc]; omega) ?_)
  have e6 : W8.heap[h + 1 + 1]? = some (.cells #[.slice (some ⟨gv, 0, none⟩) 1 cv] 25 (0, 0)) := by
    rw [← hW8]
    repeat (first | exact heap_at (by first | omega | (simp only [World.size_alloc]; omega)) | refine heap_old (by simp only [World.size_alloc]; omega) ?_)
  have e7 : W8.heap[h + 1 + 1 + 1]? = some (.cells #[.func (.func mf) #[] #[]] 112 (0, 0)) := by
    rw [← hW8]
    repeat (first | exact heap_at (by first | omega | (simp only [World.size_alloc]; omega)) | refine heap_old (by simp only [World.size_alloc]; omega) ?_)
  have e8 : W8.heap[h + 1 + 1 + 1 + 1]? = some (.cells #[.slice none 0 0] 25 (0, 0)) := by
    rw [← hW8]
    repeat (first | exact heap_at (by first | omega | (simp only [World.size_alloc]; omega)) | refine heap_old (by simp only [World.size_alloc]; omega) ?_)
  have e9 : W8.heap[h + 1 + 1 + 1 + 1 + 1]? = some (.cells #[.int .i64 0] 27 (0, 0)) := by
    rw [← hW8]
    repeat (first | exact heap_at (by first | omega | (simp only [World.size_alloc]; omega)) | refine heap_old (by simp only [World.size_alloc]; omega) ?_)
  have e10 : W8.heap[h + 1 + 1 + 1 + 1 + 1 + 1]? = some (.cells #[.slice none 0 0] 25 (0, 0)) := by
    rw [← hW8]
    repeat (first | exact heap_at (by first | omega | (simp only [World.size_alloc]; omega)) | refine heap_old (by simp only [World.size_alloc]; omega) ?_)
  have e11 : W8.heap[h + 1 + 1 + 1 + 1 + 1 + 1 + 1]? = some (.cells #[.func (.func 242) #[] #[.pointer (some ⟨h + 1 + 1, 0, none⟩), .pointer (some ⟨h + 1, 0, none⟩), .pointer (some ⟨h, 0, none⟩), .pointer (some ⟨h + 1 + 1 + 1, 0, none⟩), .pointer (some ⟨h + 1 + 1 + 1 + 1 + 1 + 1, 0, none⟩)]] 222 (0, 0)) := by
    rw [← hW8]
    repeat (first | exact heap_at (by first | omega | (simp only [World.size_alloc]; omega)) | refine heap_old (by simp only [World.size_alloc]; omega) ?_)
  have hB8 : Bel W W8 := hW8 ▸ inferInstance
  have hs8 : W8.heap.size = h + 8 := by rw [← hW8]; simp only [World.size_alloc]; omega
  have q4 : ∀ (V : World) [Bel W8 V], V.cell? ⟨h, 0, none⟩ = some (.pointer (some ⟨g, 0, none⟩)) := fun V k => k.cell (row_cell e4 0)
  have q5 : ∀ (V : World) [Bel W8 V], V.cell? ⟨h + 1, 0, none⟩ = some (.int .i64 0) := fun V k => k.cell (row_cell e5 0)
  replace w2 : ∀ (V : World) [Bel W8 V], V.cell? ⟨g, 2, none⟩ = some (.slice (some dd) 1 dc) := fun V k => k.cell (w2 W8)
  replace w3 : ∀ (V : World) [Bel W8 V], V.cell? dd = some (.bool false) := fun V k => k.cell (w3 W8)
  replace w4 : ∀ (V : World) [Bel W8 V], V.cell? ⟨dd.block, dd.off + 1, none⟩ = some (.slice RA l.length rc) := fun V k => k.cell (w4 W8)
  have E4 := Lib.hid e4
  have E5 := Lib.hid e5
  have E6 := Lib.hid e6
  have E7 := Lib.hid e7
  have E8 := Lib.hid e8
  have E9 := Lib.hid e9
  have E10 := Lib.hid e10
  have E11 := Lib.hid e11
  have HROW8 := Lib.hid ((hB8.out.block _ (blk_lt HROW.out)).trans HROW.out)
  have HB8 := Lib.hid (HB.out.trans hB8)
  have HS8 := Lib.hid hs8
  have HH := Lib.hid hh
  clear hW8 e4 e5 e6 e7 e8 e9 e10 e11 hB8 hs8 hh hmf
  go_quiet (fail)
  go_upto_region 4 with fail
  generalize hW9 : W8.drewN nq = W9
  have hB9 : Bel W8 W9 := hW9 ▸ inferInstance
  replace q4 := q4 W9
  replace q5 := q5 W9
  replace w2 := w2 W9
  replace w4 := w4 W9
  have HR9 := Lib.hid (Kd.now HR.out (HB8.out.trans hB9))
  go_cut [34] from 26 to 34 (fun v wx => ∃ gE A1 c1, v = .func (.func 245) #[] #[.pointer (some ⟨gE, 0, none⟩)] ∧ Hid (wx.heap[gE]? = some (.cells #[.slice A1 (takenL l).length c1] 46 (0, 0)) ∧ kRng.C wx A1 (takenL l).length (takenL l) ∧ (∀ ad, A1 = some ad → ∃ cells, wx.heap[ad.block]? = some (.cells cells 101 (0, 0)))) ∧ Hid (Bel W9 wx))
  case first =>
    go_region_held3 (fun w' => w'.cell? ⟨h, 0, none⟩ = some (.pointer (some ⟨g, 0, none⟩)) ∧ w'.cell? ⟨h + 1, 0, none⟩ = some (.int .i64 0) ∧ w'.cell? ⟨g, 2, none⟩ = some (.slice (some dd) 1 dc) ∧ w'.cell? ⟨dd.block, dd.off + 1, none⟩ = some (.slice RA l.length rc)) (first | exact ⟨HB1.cell q4, HB1.cell q5, HB1.cell w2, HB1.cell w4⟩ | go_keep) (first | (go_at_call 182; refine (dom_Each' RA rc l _ hlc (Kd.now HR9.out inferInstance)).mono ?_; rintro e1 w1 ⟨gE, A1, c1, rfl, hE1, hE2, hE3, HB1, hE4⟩))
    all_goals (go_wp2_with fail; go_meet; exact ⟨gE, A1, c1, rfl, Lib.hid ⟨hE1, hE2, hE4⟩, Lib.hid (by first | assumption | exact Bel.trans inferInstance (by assumption))⟩)
  case rest =>
    obtain ⟨gE, A1, c1, rfl, HX, HB2⟩ := hcut
    go_wp2
    have hBc : Bel u wc := (HB8.out.trans hB9).trans HB2.out
    have k8 : ∀ (k : Nat) (o : Obj), W8.heap[k]? = some o → wc.heap[k]? = some o := fun k o hk => by
      have h1 := (hB9.out.block _ (blk_lt hk)).trans hk
      exact (HB2.out.out.block _ (blk_lt h1)).trans h1
    have hin : ∀ r ∈ takenL l, -1000000 ≤ r.lo ∧ r.lo ≤ r.hi ∧ r.hi ≤ 1000000 := takenL_in l
    have hgE := HX.out.1
    have hSl : ∀ k, (k = gE ∨ ∃ ad, A1 = some ad ∧ k = ad.block) → ∃ cs t, wc.heap[k]? = some (Obj.cells cs t (0, 0)) ∧ t ≠ 53 ∧ t ≠ 25 := by
      rintro k (rfl | ⟨ad, e1, rfl⟩)
      · exact ⟨_, _, hgE, by decide, by decide⟩
      · obtain ⟨cs, hc⟩ := HX.out.2.2 ad e1
        exact ⟨_, _, hc, by decide, by decide⟩
    have hb8w : W8.heap.size ≤ wc.heap.size := Nat.le_trans hB9.out.size HB2.out.out.size
    have huw : u.heap.size ≤ wc.heap.size := hBc.out.size
    have hrowc : wc.heap[gv]? = some (.cells (valC y) 53 (0, 0)) := by
      exact k8 _ _ HROW8.out
    refine (wpIn_wide (n := 3)).1 ?_
    refine wpIn_rangeFunc_ownG (n := 3) rfl (by omega) (gf := 245) (lb := #[.pointer (some ⟨gE, 0, none⟩)]) rfl trivial (enters_of Tryz.func245 (by kernel_rfl) rfl)
      (each1 2 (by omega) gE A1 c1 (takenL l) wc (takenL_len l) hin (row_cell hgE 0) HX.out.2.1 (fun k => k = gE ∨ ∃ ad, A1 = some ad ∧ k = ad.block) (.inl rfl) (fun k hk => by obtain ⟨cs, t, hc, _⟩ := hSl k hk; exact blk_lt hc) (fun ad e1 => .inr ⟨ad, e1, rfl⟩)) KeepE.trans
      (fun V l o o' hl ho hc _ => KeepE.put V l o o' (fun k hk => by obtain ⟨cs, t, hc, _⟩ := hSl k hk; exact Nat.lt_of_lt_of_le (blk_lt hc) hl) ho hc) (Below.refl _ _) (fun _ => rfl)
      (fun pre V => ∃ vout yy, LeftAt u V h (h + 1) (h + 1 + 1) (h + 1 + 1 + 1) (h + 1 + 1 + 1 + 1 + 1 + 1) g gv mf cv vout (leftL p pre) yy ∧ Boxed V (h + 1 + 1 + 1 + 1) 25 (.slice none 0 0) ∧ Boxed V (h + 1 + 1 + 1 + 1 + 1) 27 (.int .i64 0) ∧ Boxed V (h + 1 + 1 + 1 + 1 + 1 + 1 + 1) 222 (cloV h) ∧ (∀ k, (k = gE ∨ ∃ ad, A1 = some ad ∧ k = ad.block) → V.heap[k]? = wc.heap[k]?) ∧ (ok = true ∨ pre = []))
      (fun c pre V => c = .ret ∧ ok = false ∧ Boxed V (h + 1 + 1 + 1 + 1) 25 (.slice none 0 0) ∧ Boxed V (h + 1 + 1 + 1 + 1 + 1) 27 (.int .i64 e) ∧ Bel u V)
      ?own ?ownx ?start ?a1 ?assign ?body ?done ?stop
    case own =>
      rintro pre V V' row ⟨vout, yy, hL, b8, b9, b11, hS, hk⟩ hg hr
      refine ⟨vout, yy, leftAt_own hL hg (fun r er => ⟨Nat.le_trans huw (hr r er).1, (hr r er).2⟩), boxed_k b8 hg (fun r er => (hr r er).2), boxed_k b9 hg (fun r er => (hr r er).2), boxed_k b11 hg (fun r er => (hr r er).2), fun k hk => ?_, hk⟩
      obtain ⟨cs, t, hc, _⟩ := hSl k hk
      have h1 : V.heap[k]? = some (Obj.cells cs t (0, 0)) := (hS k hk).trans hc
      refine (hg.block k (blk_lt h1) (fun er => ?_)).trans (hS k hk)
      obtain ⟨_, o, ho, hoc⟩ := hr k er.symm
      rw [h1] at ho
      cases ho
      cases hoc
    case ownx =>
      rintro cc pre V V' row ⟨hc, ho, b8, b9, hb⟩ hg hr
      exact ⟨hc, ho, boxed_k b8 hg (fun r er => (hr r er).2), boxed_k b9 hg (fun r er => (hr r er).2), ⟨hb.out.grown hg hb.out.size (fun r er => Nat.le_trans huw (hr r er).1)⟩⟩
    case start =>
      have hgh : gv ≠ h + 1 + 1 + 1 + 1 + 1 + 1 := by have := blk_lt HROW.out; have := HH.out; omega
      refine ⟨.slice none 0 0, y, ⟨hBc, k8 _ _ E4.out, k8 _ _ E5.out, k8 _ _ E6.out, k8 _ _ E7.out, k8 _ _ E10.out, hrowc, Acc.nilB hBc, HGV.out, ?_, by simp [Value.ownBlock], by omega⟩, k8 _ _ E8.out, k8 _ _ E9.out, k8 _ _ E11.out, fun _ _ => rfl, .inr rfl⟩
      have := HB.out.out.size
      have := HH.out
      omega
    case assign =>
      intro l x V K hK
      gi_wp2
      exact hK
    case body =>
      rintro l' pre x V ⟨vout, yy, hL, b8, b9, b11, hS, hk⟩ hlen
      have d11 := b11.cell
      have hc := try1 (HMM.out x) HML.out HA.out HAL.out han HT.out hf HP.out HW.out V hL (Nat.le_trans (leftL_len p pre) (by have := HVL.out; omega))
      obtain ⟨ee, hee⟩ : ∃ ee : Int, (if ok = true then (0 : Int) else e) = ee := ⟨_, rfl⟩
      rw [hee] at hc
      have HC := Lib.hid hc
      have HL := Lib.hid hL
      have HS := Lib.hid hS
      have B8 := Lib.hid b8
      have B9 := Lib.hid b9
      have B11 := Lib.hid b11
      clear hc hL hS b8 b9 b11
      cases ok with
      | true =>
        rw [if_pos rfl] at hee
        subst hee
        gi_wp2_with (refine ⟨trivial, ?_⟩; gi_at_call 242; refine (CallsIn.inRound l' (callsIn_wide.2 HC.out)).mono ?_; rintro e1 V2 ⟨rfl, vout', hL', hfr, hsz⟩)
        have hkp := try_keeps HL.out hfr
        have hk2 := try_keeps2 HL.out hfr
        have hS2 : ∀ k, (k = gE ∨ ∃ ad, A1 = some ad ∧ k = ad.block) → V2.heap[k]? = V.heap[k]? := by
          intro k hk
          obtain ⟨cs, t, hc, t1, t2⟩ := hSl k hk
          have h1 : V.heap[k]? = some (Obj.cells cs t (0, 0)) := (HS.out k hk).trans hc
          rw [h1]
          refine hkp k _ h1 (fun cs' e => ?_) (fun cs' e => ?_)
          · injection e with _ e2; exact t1 e2
          · injection e with _ e2; exact t2 e2
        refine ⟨⟨hsz, fun k o _ hk ho => hkp k o hk (fun cs e => by rw [e] at ho; cases ho) (fun cs e => by rw [e] at ho; cases ho)⟩, ⟨hS2, fun k a b hk => hk2 k _ _ hk (by decide) (fun e => ?_)⟩, ⟨vout', x, by rw [leftL_snoc]; exact hL'⟩, hk2 _ _ _ B8.out (by decide) (by omega), hk2 _ _ _ B9.out (by decide) (by omega), hk2 _ _ _ B11.out (by decide) (by omega), ?_, ?_⟩
        · subst e
          have := Option.some.inj (hk.symm.trans (show V.heap[h + 1 + 1 + 1 + 1 + 1 + 1]? = some (Obj.cells #[vout] 25 (0, 0)) from HL.out.x10))
          injection this with _ e2
          cases e2
        · exact (hS2 gE (.inl rfl)).trans ((HS.out gE (.inl rfl)).trans hgE)
        · intro a ad e1 e2
          exact (hS2 a (.inr ⟨ad, e1, e2⟩)).trans (HS.out a (.inr ⟨ad, e1, e2⟩))
      | false =>
        rw [if_neg (by simp)] at hee
        subst hee
        have he := HE.out
        gi_wp2_with (refine ⟨trivial, ?_⟩; gi_at_call 242; refine (CallsIn.inRound l' (callsIn_wide.2 HC.out)).mono ?_; rintro e1 V2 ⟨rfl, vout', hL', hfr, hsz⟩; have z8 : Boxed V2 (h + 1 + 1 + 1 + 1) 25 (.slice none 0 0) := try_keeps2 HL.out hfr _ _ _ B8.out (by decide) (by omega); have z9 : Boxed V2 (h + 1 + 1 + 1 + 1 + 1) 27 (.int .i64 0) := try_keeps2 HL.out hfr _ _ _ B9.out (by decide) (by omega); have z8c := z8.cell; have z8f := z8.frozen; have z9c := z9.cell; have z9f := z9.frozen; have Z8 := Lib.hid z8; have Z9 := Lib.hid z9; have HL' := Lib.hid hL'; have HFR := Lib.hid hfr; clear z8 z9 hL' hfr)
        have hkp := try_keeps HL.out HFR.out
        refine ⟨⟨?_, fun k o _ hk ho => ?_⟩, rfl, (Z8.out.set _).other (by omega) _, (Z9.out.other (by omega) _).set _, ⟨(HL'.out.bel.out.setCell (p := ⟨h + 1 + 1 + 1 + 1, 0, none⟩) ?_ _).setCell (p := ⟨h + 1 + 1 + 1 + 1 + 1, 0, none⟩) ?_ _⟩⟩
        · rw [World.size_setCell, World.size_setCell]
          exact hsz
        · have h1 := hkp k o hk (fun cs e => by rw [e] at ho; cases ho) (fun cs e => by rw [e] at ho; cases ho)
          have n8 : k ≠ h + 1 + 1 + 1 + 1 := by
            intro e2
            subst e2
            rw [show V2.heap[h + 1 + 1 + 1 + 1]? = some (Obj.cells #[.slice none 0 0] 25 (0, 0)) from Z8.out] at h1
            cases h1
            cases ho
          have n9 : k ≠ h + 1 + 1 + 1 + 1 + 1 := by
            intro e2
            subst e2
            rw [show V2.heap[h + 1 + 1 + 1 + 1 + 1]? = some (Obj.cells #[.int .i64 0] 27 (0, 0)) from Z9.out] at h1
            cases h1
            cases ho
          rw [heap_setCell_other _ _ _ _ n9, heap_setCell_other _ _ _ _ n8]
          exact h1
        · have := HB.out.out.size; have := HH.out; show u.heap.size ≤ h + 1 + 1 + 1 + 1; omega
        · have := HB.out.out.size; have := HH.out; show u.heap.size ≤ h + 1 + 1 + 1 + 1 + 1; omega
    case done =>
      rintro Dk xs V hD rfl ⟨vout, yy, hL, b8, b9, b11, hS, hk⟩ hK
      have hok : ok = true := by
        rcases hk with h1 | h1
        · exact h1
        · cases ok with
          | true => rfl
          | false => exact absurd h1 (HNE.out rfl)
      subst hok
      have d10 := hL.x10.cell
      obtain ⟨Ao, co, rfl, hlo, hCo⟩ := hL.out.reads
      have z8c := b8.cell
      have z8f := b8.frozen
      have z9c := b9.cell
      have z9f := b9.frozen
      have HL := Lib.hid hL
      have B8 := Lib.hid b8
      have B9 := Lib.hid b9
      have HCO := Lib.hid hCo
      have HKd := Lib.hid hK
      clear hL b8 b9 b11 hS hk hCo hK
      go_wp2
      have n8 := kvalNo HKd.out B8.out
      have n9 := kvalNo HKd.out B9.out
      have hK2 : ((V.setCell ⟨h + 1 + 1 + 1 + 1, 0, none⟩ (.slice Ao (leftL p (vals (takenL l))).length co)).setCell ⟨h + 1 + 1 + 1 + 1 + 1, 0, none⟩ (.int .i64 0)).heap[Dk]? = some (.deferred (some [])) := by
        rw [heap_setCell_other _ _ _ _ (fun e => n9 e.symm), heap_setCell_other _ _ _ _ (fun e => n8 e.symm)]
        exact HKd.out
      have x8 : Boxed ((V.setCell ⟨h + 1 + 1 + 1 + 1, 0, none⟩ (.slice Ao (leftL p (vals (takenL l))).length co)).setCell ⟨h + 1 + 1 + 1 + 1 + 1, 0, none⟩ (.int .i64 0)) (h + 1 + 1 + 1 + 1) 25 (.slice Ao (leftL p (vals (takenL l))).length co) := (B8.out.set _).other (by omega) _
      have x9 : Boxed ((V.setCell ⟨h + 1 + 1 + 1 + 1, 0, none⟩ (.slice Ao (leftL p (vals (takenL l))).length co)).setCell ⟨h + 1 + 1 + 1 + 1 + 1, 0, none⟩ (.int .i64 0)) (h + 1 + 1 + 1 + 1 + 1) 27 (.int .i64 0) := (B9.out.other (by omega) _).set _
      have bW : Bel u ((V.setCell ⟨h + 1 + 1 + 1 + 1, 0, none⟩ (.slice Ao (leftL p (vals (takenL l))).length co)).setCell ⟨h + 1 + 1 + 1 + 1 + 1, 0, none⟩ (.int .i64 0)) :=
        ⟨(HL.out.bel.out.setCell (p := ⟨h + 1 + 1 + 1 + 1, 0, none⟩) (by have := HB.out.out.size; have := HH.out; show u.heap.size ≤ h + 1 + 1 + 1 + 1; omega) _).setCell (p := ⟨h + 1 + 1 + 1 + 1 + 1, 0, none⟩) (by have := HB.out.out.size; have := HH.out; show u.heap.size ≤ h + 1 + 1 + 1 + 1 + 1; omega) _⟩
      have own0 : ∀ k, (Value.slice Ao (leftL p (vals (takenL l))).length co).ownBlock = some k → ∃ cells, V.heap[k]? = some (.cells cells 53 (0, 0)) := fun k hk => by
        obtain ⟨inner, hw⟩ := Kd.R_own HL.out.out.own
        exact own_typed hw k hk
      have ownK : ∀ k, (Value.slice Ao (leftL p (vals (takenL l))).length co).ownBlock = some k → ((V.setCell ⟨h + 1 + 1 + 1 + 1, 0, none⟩ (.slice Ao (leftL p (vals (takenL l))).length co)).setCell ⟨h + 1 + 1 + 1 + 1 + 1, 0, none⟩ (.int .i64 0)).heap[k]? = V.heap[k]? := by
        intro k hk
        obtain ⟨cells, hc⟩ := own0 k hk
        have m9 : k ≠ h + 1 + 1 + 1 + 1 + 1 := by
          intro e2
          subst e2
          rw [show V.heap[h + 1 + 1 + 1 + 1 + 1]? = some (Obj.cells #[.int .i64 0] 27 (0, 0)) from B9.out] at hc
          injection hc with hc
          injection hc with _ e3
          cases e3
        have m8 : k ≠ h + 1 + 1 + 1 + 1 := by
          intro e2
          subst e2
          rw [show V.heap[h + 1 + 1 + 1 + 1]? = some (Obj.cells #[.slice none 0 0] 25 (0, 0)) from B8.out] at hc
          injection hc with hc
          injection hc with _ e3
          cases e3
        rw [heap_setCell_other _ _ _ _ m9, heap_setCell_other _ _ _ _ m8]
      generalize (V.setCell ⟨h + 1 + 1 + 1 + 1, 0, none⟩ (.slice Ao (leftL p (vals (takenL l))).length co)).setCell ⟨h + 1 + 1 + 1 + 1 + 1, 0, none⟩ (.int .i64 0) = V3 at *
      refine ⟨by simp, .inl ⟨_, _, rfl, run_takeDeferred hK2, ?_⟩⟩
      have p8 : Boxed (V3.putObj Dk (.deferred none)) (h + 1 + 1 + 1 + 1) 25 (.slice Ao (leftL p (vals (takenL l))).length co) := (World.putObj_heap_other n8).trans x8
      have p9 : Boxed (V3.putObj Dk (.deferred none)) (h + 1 + 1 + 1 + 1 + 1) 27 (.int .i64 0) := (World.putObj_heap_other n9).trans x9
      refine ⟨_, results_left (b8 := h + 1 + 1 + 1 + 1) (b9 := h + 1 + 1 + 1 + 1 + 1) rfl rfl p8.cell p9.cell, ?_⟩
      have bP : Bel u (V3.putObj Dk (.deferred none)) := ⟨bW.out.grown (grownBy_putObj' V3 Dk _) bW.out.size (fun k e => by cases e; exact Nat.le_trans huw hD)⟩
      have hA := AccV.move HL.out.out bP (fun k hk => by
        obtain ⟨cells, hc⟩ := own0 k hk
        exact (World.putObj_heap_other (kvalNo HKd.out hc)).trans (ownK k hk))
      refine ⟨?_, bP⟩
      rw [if_pos rfl]
      exact ⟨Ao, co, rfl, hlo, kValO_C hA.C.2.2 bP⟩
    case stop =>
      rintro Dk c pre V hD hpre ⟨rfl, hok, b8, b9, hb⟩ hK
      subst hok
      have HKd := Lib.hid hK
      have B8 := Lib.hid b8
      have B9 := Lib.hid b9
      clear b8 b9 hK
      gi_wp2
      have n8 := kvalNo HKd.out B8.out
      have n9 := kvalNo HKd.out B9.out
      refine ⟨by simp, .inl ⟨_, _, rfl, run_takeDeferred HKd.out, ?_⟩⟩
      have p8 : Boxed (V.putObj Dk (.deferred none)) (h + 1 + 1 + 1 + 1) 25 (.slice none 0 0) := (World.putObj_heap_other n8).trans B8.out
      have p9 : Boxed (V.putObj Dk (.deferred none)) (h + 1 + 1 + 1 + 1 + 1) 27 (.int .i64 e) := (World.putObj_heap_other n9).trans B9.out
      refine ⟨_, results_left (b8 := h + 1 + 1 + 1 + 1) (b9 := h + 1 + 1 + 1 + 1 + 1) rfl rfl p8.cell p9.cell, ?_⟩
      have bP : Bel u (V.putObj Dk (.deferred none)) := ⟨hb.out.grown (grownBy_putObj' V Dk _) hb.out.size (fun k e => by cases e; exact Nat.le_trans huw hD)⟩
      refine ⟨?_, bP⟩
      rw [if_neg (by simp)]
end Go.Proofs.YtkdedpofghlmoaaGreatDoor
set_option linter.unusedVariables false
set_option linter.unusedSimpArgs false
namespace Go.Proofs.YtkdedpofghlmoaaGreatDoor
open Go.RowKit Go.Proofs.YtkdedpofghlmoaaGreatDoorW.PrintWords
theorem make1 (w : World) : (Instr.makeSlice 25 (.int .i64 1) (.int .i64 1)).run Tryz.prog w = .ok (.slice (some ⟨w.heap.size, 0, none⟩) 1 1) (w.alloc (.cells (valC 0) 53)) := by kernel_rfl
set_option maxRecDepth 100000 in
set_option maxHeartbeats 4000000 in
theorem last_err {w : World} {n : ByteArray} {A : Option Addr} {c : Nat} {ch fl : Bool} {args : List Arg} {mf g : Nat} {p : Int → Bool} {e : Int} {dd : Addr} {dc : Nat} {RA : Option Addr} {l : List Rng} {rc : Nat} {va : Option Addr} {vc : Nat}
    (hlc : l.length ≤ rc) (hR : kRng.C w RA l.length l) (d0 : w.cell? dd = some (.bool false)) (d1 : w.cell? ⟨dd.block, dd.off + 1, none⟩ = some (.slice RA l.length rc))
    (d2 : w.cell? ⟨dd.block, dd.off + 2, none⟩ = some (.slice none 0 0)) (d3 : w.cell? ⟨dd.block, dd.off + 3, none⟩ = some (.slice none 0 0)) (d4 : w.cell? ⟨dd.block, dd.off + 4, none⟩ = some (.int .i64 0)) (d5 : w.cell? ⟨dd.block, dd.off + 5, none⟩ = some (.int .i64 0))
    (hml : ML w) (ha : kArg.C w A args.length args) (hal : ∀ a ∈ args, a.l.length ≤ 1000) (han : args.length ≤ 1000)
    (htr : truthsL n = []) (hf : (findR n).form.size < 4294967281) (hp : ∀ p ∈ partsL (findR n).form, p.size ≤ 1000) (hw : w.heap[g]? = some (.cells (workC n (.slice A args.length c) (.slice (some dd) 1 dc) ch fl) 126 (0, 0)))
    (HM : ∀ x, MeansIs mf n (valuesL [⟨false, x, []⟩] args) (p x) e) (he : (e == 0) = false) (hne : vals (takenL l) ≠ []) (hvl : (vals (takenL l)).length ≤ 1000000) (hv : (Kd.int .i64).C w va 1 [0]) (hs1 : 1 < sizeL (takenL l)) (hs2 : sizeL (takenL l) ≤ 1000) :
    Calls Tryz.prog 109 #[.pointer (some ⟨g, 0, none⟩), .slice va 1 vc, .func (.func mf) #[] #[]] w fun e' w' => e' = .returned (.int .i64 e) ∧ Bel w w' := by
  obtain ⟨vd, rfl, v0⟩ := Int.nth hv (k := 0) (x := 0) rfl
  change w.cell? vd = some (.int .i64 0) at v0
  have HL := Lib.hid (fun (gv cv : Nat) (y : Int) (W : World) (hb : Bel w W) (hrow : W.heap[gv]? = some (.cells (valC y) 53 (0, 0))) (hgv : w.heap.size ≤ gv) => work_left (ok := false) (mf := mf) (p := p) (e := e) (cv := cv) (y := y) hlc hR d0 d1 hml ha hal han htr hf hp hw (fun x => by simpa using HM x) he (fun _ => hne) hvl W hb hrow hgv)
  have w2 : ∀ (V : World) [Bel w V], V.cell? ⟨g, 2, none⟩ = some (.slice (some dd) 1 dc) := fun V h => h.cell (row_cell hw 2)
  replace d0 : ∀ (V : World) [Bel w V], V.cell? dd = some (.bool false) := fun V h => h.cell d0
  replace d1 : ∀ (V : World) [Bel w V], V.cell? ⟨dd.block, dd.off + 1, none⟩ = some (.slice RA l.length rc) := fun V h => h.cell d1
  replace d2 : ∀ (V : World) [Bel w V], V.cell? ⟨dd.block, dd.off + 2, none⟩ = some (.slice none 0 0) := fun V h => h.cell d2
  replace d3 : ∀ (V : World) [Bel w V], V.cell? ⟨dd.block, dd.off + 3, none⟩ = some (.slice none 0 0) := fun V h => h.cell d3
  replace d4 : ∀ (V : World) [Bel w V], V.cell? ⟨dd.block, dd.off + 4, none⟩ = some (.int .i64 0) := fun V h => h.cell d4
  replace d5 : ∀ (V : World) [Bel w V], V.cell? ⟨dd.block, dd.off + 5, none⟩ = some (.int .i64 0) := fun V h => h.cell d5
  replace v0 : ∀ (V : World) [Bel w V], V.cell? vd = some (.int .i64 0) := fun V h => h.cell v0
  have HRR := Lib.hid hR
  have HE := Lib.hid he
  clear hR hml ha hal htr hp hw HM hne hvl hv he
  obtain ⟨wz, hwz⟩ : ∃ wz, w.alloc (.cells (valC 0) 53) = wz := ⟨_, rfl⟩
  have hmk := make1 w
  rw [hwz] at hmk
  have zb : Bel w wz := hwz ▸ inferInstance
  have z0 : wz.heap[w.heap.size]? = some (.cells (valC 0) 53 (0, 0)) := hwz ▸ heap_alloc_new _ _
  have r0 : ∀ (V : World) [Bel wz V], V.cell? ⟨w.heap.size, 0, none⟩ = some (.bool false) := fun V h => h.cell (row_cell z0 0)
  have r1 : ∀ (V : World) [Bel wz V], V.cell? ⟨w.heap.size, 1, none⟩ = some (.int .i64 0) := fun V h => h.cell (row_cell z0 1)
  have r2 : ∀ (V : World) [Bel wz V], V.cell? ⟨w.heap.size, 2, none⟩ = some (.slice none 0 0) := fun V h => h.cell (row_cell z0 2)
  have f0 : ∀ (V : World) [Bel wz V], V.frozen? ⟨w.heap.size, 0, none⟩ = false := fun V h => frozen_of_row V _ 0 _ _ ((h.out.block _ (blk_lt z0)).trans z0)
  have f1 : ∀ (V : World) [Bel wz V], V.frozen? ⟨w.heap.size, 1, none⟩ = false := fun V h => frozen_of_row V _ 1 _ _ ((h.out.block _ (blk_lt z0)).trans z0)
  have f2 : ∀ (V : World) [Bel wz V], V.frozen? ⟨w.heap.size, 2, none⟩ = false := fun V h => frozen_of_row V _ 2 _ _ ((h.out.block _ (blk_lt z0)).trans z0)
  have Z0 := Lib.hid z0
  obtain ⟨sz, hsz⟩ : ∃ sz, sizeL (takenL l) = sz := ⟨_, rfl⟩
  rw [hsz] at hs1 hs2
  obtain ⟨mn, hmn⟩ : ∃ mn, (nextL (-1000000) (takenL l)).1 = mn := ⟨_, rfl⟩
  have HSZ := Lib.hid hsz
  have HMN := Lib.hid hmn
  clear hwz z0 hsz hmn
  go_enter Tryz.func109, Tryz.ntmps109
  go_wp2_with fail
  refine wp_loop_rounds 2 ?_
  rw [rounds_succ]
  go_wp2_with fail
  refine (tool_count RA l rc _ hlc (Kd.now HRR.out inferInstance)).mono ?_
  rintro e1 w1 ⟨rfl, HB1⟩
  rw [HSZ.out]
  have b1 : Bel w w1 := zb.trans HB1
  go_wp2_with (at_builtin; refine AccN.app (w0 := w1) (Wr := w1) Acc.nil rfl rfl rfl rfl (by simp) inferInstance (by simp) ?_; intro v1 wa HOa hka; clear hka; simp only [List.nil_append] at HOa; obtain ⟨od, co, rfl, og⟩ := HOa.fresh (by simp); simp only [List.length_cons, List.length_nil, Nat.zero_add] at HOa; have ba : Bel w wa := b1.trans HOa.bel; have bza : Bel wz wa := HB1.trans HOa.bel)
  refine (tool_first RA l rc _ hlc (Kd.now HRR.out inferInstance)).mono ?_
  rintro e2 wf ⟨rfl, HBf⟩
  rw [HMN.out]
  have bf : Bel w wf := ba.trans HBf
  have bzf : Bel wz wf := bza.trans HBf
  have hod := Int.nth HOa.C.2.2 (k := 0) (x := 0) rfl
  obtain ⟨od', eo, oc0⟩ := hod
  cases eo
  change wa.cell? ⟨od, 0, none⟩ = some (.int .i64 0) at oc0
  have HOC := Lib.hid oc0
  have HOG := Lib.hid og
  have HBF := Lib.hid HBf
  clear oc0 og HBf HOa
  go_wp2_with fail
  obtain ⟨ws, hws⟩ : ∃ ws, ((wf.setCell ⟨w.heap.size, 0, none⟩ (.bool false)).setCell ⟨w.heap.size, 1, none⟩ (.int .i64 mn)).setCell ⟨w.heap.size, 2, none⟩ (.slice none 0 0) = ws := ⟨_, rfl⟩
  rw [hws]
  have bs : Bel w ws := by
    rw [← hws]
    exact ⟨((bf.out.setCell (p := ⟨w.heap.size, 0, none⟩) (Nat.le_refl _) _).setCell (p := ⟨w.heap.size, 1, none⟩) (Nat.le_refl _) _).setCell (p := ⟨w.heap.size, 2, none⟩) (Nat.le_refl _) _⟩
  have hrow : ws.heap[w.heap.size]? = some (.cells (valC mn) 53 (0, 0)) := hws ▸ set3 ((bzf.out.block _ (blk_lt Z0.out)).trans Z0.out)
  have odlt : od < wa.heap.size := World.block_lt_of_cell? wa ⟨od, 0, none⟩ HOC.out
  have odne : od ≠ w.heap.size := by have := blk_lt Z0.out; have := HB1.out.size; have := HOG.out; omega
  have oc : ws.cell? ⟨od, 0, none⟩ = some (.int .i64 0) := by
    have hh : ws.heap[od]? = wa.heap[od]? := by
      rw [← hws, heap_setCell_other _ _ _ _ odne, heap_setCell_other _ _ _ _ odne, heap_setCell_other _ _ _ _ odne]
      exact HBF.out.out.block _ odlt
    exact (World.cell?_of_block (w := wa) (a := ⟨od, 0, none⟩) hh).trans HOC.out
  replace oc : ∀ (V : World) [Bel ws V], V.cell? ⟨od, 0, none⟩ = some (.int .i64 0) := fun V h => h.cell oc
  have HROW := Lib.hid hrow
  clear hws hrow odlt odne b1 ba bza bf bzf r0 r1 r2 f0 f1 f2 hmk
  rw [rounds_succ]
  go_wp2_with fail
  refine (tool_count RA l rc _ hlc (Kd.now HRR.out inferInstance)).mono ?_
  rintro e3 wg ⟨rfl, HBg⟩
  rw [HSZ.out]
  have bg : Bel w wg := bs.trans HBg
  go_wp2_with fail
  refine (HL.out _ _ mn _ bg ((HBg.out.block _ (blk_lt HROW.out)).trans HROW.out) (Nat.le_refl _)).mono ?_
  rintro e4 wl ⟨hl1, hl2⟩
  rw [if_neg (by simp)] at hl1
  subst hl1
  have he := HE.out
  go_wp2
  go_ret
  exact ⟨rfl, hl2⟩
end Go.Proofs.YtkdedpofghlmoaaGreatDoor
set_option linter.unusedVariables false
set_option linter.unusedSimpArgs false
namespace Go.Proofs.YtkdedpofghlmoaaGreatDoor
open Go.RowKit Go.Proofs.YtkdedpofghlmoaaGreatDoorW.PrintWords
/-- One domain has been made smaller: to one value. -/
def LastPost (w : World) (gd : Nat) (q : Int) (e' : Ending) (w' : World) : Prop :=
  e' = .returned (.int .i64 0) ∧ ∃ gr cr, 1 ≤ cr ∧ kRng.C w' (some ⟨gr, 0, none⟩) 1 [⟨q, q⟩] ∧ w'.cell? ⟨gd, 0, none⟩ = some (.bool false) ∧ w'.cell? ⟨gd, 1, none⟩ = some (.slice (some ⟨gr, 0, none⟩) 1 cr) ∧ w'.cell? ⟨gd, 2, none⟩ = some (.slice none 0 0) ∧ w'.cell? ⟨gd, 3, none⟩ = some (.slice none 0 0) ∧
    w'.cell? ⟨gd, 4, none⟩ = some (.int .i64 0) ∧ w'.cell? ⟨gd, 5, none⟩ = some (.int .i64 0) ∧ w.grownBy w' (some gd)
theorem last_post {w ws wh : World} {gd gr cr : Nat} {q : Int} {dcs : Array Value} {a1 a2 a3 a4 a5 a0 : Value} (hb : Bel w wh) (hd : w.heap[gd]? = some (.cells dcs 49 (0, 0))) (z0 : wh.cell? ⟨gd, 0, none⟩ = some a0) (z1 : wh.cell? ⟨gd, 1, none⟩ = some a1) (z2 : wh.cell? ⟨gd, 2, none⟩ = some a2) (z3 : wh.cell? ⟨gd, 3, none⟩ = some a3) (z4 : wh.cell? ⟨gd, 4, none⟩ = some a4) (z5 : wh.cell? ⟨gd, 5, none⟩ = some a5)
    (hs : w.heap.size ≤ ws.heap.size) (hgr : ws.heap.size ≤ gr) (hcr : 1 ≤ cr) (hC : kRng.C wh (some ⟨gr, 0, none⟩) 1 [⟨q, q⟩]) :
    LastPost w gd q (.returned (.int .i64 0)) ((((((wh.setCell ⟨gd, 0, none⟩ (.bool false)).setCell ⟨gd, 1, none⟩ (.slice (some ⟨gr, 0, none⟩) 1 cr)).setCell ⟨gd, 2, none⟩ (.slice none 0 0)).setCell ⟨gd, 3, none⟩ (.slice none 0 0)).setCell ⟨gd, 4, none⟩ (.int .i64 0)).setCell ⟨gd, 5, none⟩ (.int .i64 0)) := by
  have hlt := blk_lt hd
  have ne : gr ≠ gd := by omega
  have hk : ∀ k, k ≠ gd → ((((((wh.setCell ⟨gd, 0, none⟩ (.bool false)).setCell ⟨gd, 1, none⟩ (.slice (some ⟨gr, 0, none⟩) 1 cr)).setCell ⟨gd, 2, none⟩ (.slice none 0 0)).setCell ⟨gd, 3, none⟩ (.slice none 0 0)).setCell ⟨gd, 4, none⟩ (.int .i64 0)).setCell ⟨gd, 5, none⟩ (.int .i64 0)).heap[k]? = wh.heap[k]? := by
    intro k hne
    rw [heap_setCell_other _ _ _ _ hne, heap_setCell_other _ _ _ _ hne, heap_setCell_other _ _ _ _ hne, heap_setCell_other _ _ _ _ hne, heap_setCell_other _ _ _ _ hne, heap_setCell_other _ _ _ _ hne]
  refine ⟨rfl, gr, cr, hcr, C_move hC (fun x c h => by rw [kRng_open h]; exact kRng_mk _ _) (hk gr ne), ?_, ?_, ?_, ?_, ?_, ?_, ⟨?_, ?_, ?_, ?_, fun k h1 h2 => (hk k (fun e => h2 (by rw [e]))).trans (hb.out.block k h1)⟩⟩
  · simp [World.cell?_setCell_other, World.cell?_setCell_same', z0, z1, z2, z3, z4, z5]
  · simp [World.cell?_setCell_other, World.cell?_setCell_same', z0, z1, z2, z3, z4, z5]
  · simp [World.cell?_setCell_other, World.cell?_setCell_same', z0, z1, z2, z3, z4, z5]
  · simp [World.cell?_setCell_other, World.cell?_setCell_same', z0, z1, z2, z3, z4, z5]
  · simp [World.cell?_setCell_other, World.cell?_setCell_same', z0, z1, z2, z3, z4, z5]
  · simp [World.cell?_setCell_other, World.cell?_setCell_same', z0, z1, z2, z3, z4, z5]
  · have := hb.out.os
    simpa [World.setCell] using this
  · have := hb.out.tape
    simpa [World.setCell] using this
  · have := hb.out.output
    simpa [World.setCell] using this
  · have := hb.out.size
    simpa [World.setCell] using this
set_option maxRecDepth 100000 in
set_option maxHeartbeats 4000000 in
theorem last_one {w : World} {n : ByteArray} {A : Option Addr} {c : Nat} {ch : Bool} {args : List Arg} {mf g : Nat} {p : Int → Bool} {q : Int} {gd : Nat} {dcs : Array Value} {dc : Nat} {RA : Option Addr} {l : List Rng} {rc : Nat} {va : Option Addr} {vc : Nat}
    (hlc : l.length ≤ rc) (hR : kRng.C w RA l.length l) (d0 : w.cell? ⟨gd, 0, none⟩ = some (.bool false)) (d1 : w.cell? ⟨gd, 1, none⟩ = some (.slice RA l.length rc))
    (d2 : w.cell? ⟨gd, 2, none⟩ = some (.slice none 0 0)) (d3 : w.cell? ⟨gd, 3, none⟩ = some (.slice none 0 0)) (d4 : w.cell? ⟨gd, 4, none⟩ = some (.int .i64 0)) (d5 : w.cell? ⟨gd, 5, none⟩ = some (.int .i64 0))
    (hml : ML w) (ha : kArg.C w A args.length args) (hal : ∀ a ∈ args, a.l.length ≤ 1000) (han : args.length ≤ 1000)
    (htr : truthsL n = []) (hf : (findR n).form.size < 4294967281) (hp : ∀ p ∈ partsL (findR n).form, p.size ≤ 1000) (hw : w.heap[g]? = some (.cells (workC n (.slice A args.length c) (.slice (some ⟨gd, 0, none⟩) 1 dc) ch false) 126 (0, 0)))
    (HM : ∀ x, MeansIs mf n (valuesL [⟨false, x, []⟩] args) (p x) 0) (hq : leftL p (vals (takenL l)) = [⟨false, q, []⟩]) (hiq : inB q = true) (hdd : w.heap[gd]? = some (.cells dcs 49 (0, 0))) (hvl : (vals (takenL l)).length ≤ 1000000) (hv : (Kd.int .i64).C w va 1 [0]) (hs1 : 1 < sizeL (takenL l)) (hs2 : sizeL (takenL l) ≤ 1000) :
    Calls Tryz.prog 109 #[.pointer (some ⟨g, 0, none⟩), .slice va 1 vc, .func (.func mf) #[] #[]] w (LastPost w gd q) := by
  obtain ⟨vd, rfl, v0⟩ := Int.nth hv (k := 0) (x := 0) rfl
  change w.cell? vd = some (.int .i64 0) at v0
  have HL := Lib.hid (fun (gv cv : Nat) (y : Int) (W : World) (hb : Bel w W) (hrow : W.heap[gv]? = some (.cells (valC y) 53 (0, 0))) (hgv : w.heap.size ≤ gv) => work_left (ok := true) (mf := mf) (p := p) (e := 1) (cv := cv) (y := y) hlc hR d0 d1 hml ha hal han htr hf hp hw (fun x => by simpa using HM x) (by decide) (fun h => by cases h) hvl W hb hrow hgv)
  have w2 : ∀ (V : World) [Bel w V], V.cell? ⟨g, 2, none⟩ = some (.slice (some ⟨gd, 0, none⟩) 1 dc) := fun V h => h.cell (row_cell hw 2)
  replace d0 : ∀ (V : World) [Bel w V], V.cell? ⟨gd, 0, none⟩ = some (.bool false) := fun V h => h.cell d0
  replace d1 : ∀ (V : World) [Bel w V], V.cell? ⟨gd, 1, none⟩ = some (.slice RA l.length rc) := fun V h => h.cell d1
  replace d2 : ∀ (V : World) [Bel w V], V.cell? ⟨gd, 2, none⟩ = some (.slice none 0 0) := fun V h => h.cell d2
  replace d3 : ∀ (V : World) [Bel w V], V.cell? ⟨gd, 3, none⟩ = some (.slice none 0 0) := fun V h => h.cell d3
  replace d4 : ∀ (V : World) [Bel w V], V.cell? ⟨gd, 4, none⟩ = some (.int .i64 0) := fun V h => h.cell d4
  replace d5 : ∀ (V : World) [Bel w V], V.cell? ⟨gd, 5, none⟩ = some (.int .i64 0) := fun V h => h.cell d5
  replace v0 : ∀ (V : World) [Bel w V], V.cell? vd = some (.int .i64 0) := fun V h => h.cell v0
  have HRR := Lib.hid hR
  have g0 : ∀ (V : World) [Bel w V], V.frozen? ⟨gd, 0, none⟩ = false := fun V h => frozen_of_row V _ 0 _ _ ((h.out.block _ (blk_lt hdd)).trans hdd)
  have g1 : ∀ (V : World) [Bel w V], V.frozen? ⟨gd, 1, none⟩ = false := fun V h => frozen_of_row V _ 1 _ _ ((h.out.block _ (blk_lt hdd)).trans hdd)
  have g2 : ∀ (V : World) [Bel w V], V.frozen? ⟨gd, 2, none⟩ = false := fun V h => frozen_of_row V _ 2 _ _ ((h.out.block _ (blk_lt hdd)).trans hdd)
  have g3 : ∀ (V : World) [Bel w V], V.frozen? ⟨gd, 3, none⟩ = false := fun V h => frozen_of_row V _ 3 _ _ ((h.out.block _ (blk_lt hdd)).trans hdd)
  have g4 : ∀ (V : World) [Bel w V], V.frozen? ⟨gd, 4, none⟩ = false := fun V h => frozen_of_row V _ 4 _ _ ((h.out.block _ (blk_lt hdd)).trans hdd)
  have g5 : ∀ (V : World) [Bel w V], V.frozen? ⟨gd, 5, none⟩ = false := fun V h => frozen_of_row V _ 5 _ _ ((h.out.block _ (blk_lt hdd)).trans hdd)
  have fw : ∀ (V : World) [Bel w V], V.frozen? ⟨g, 4, none⟩ = false := fun V h => frozen_of_row V _ 4 _ _ ((h.out.block _ (blk_lt hw)).trans hw)
  have w4 : ∀ (V : World) [Bel w V], V.cell? ⟨g, 4, none⟩ = some (.bool false) := fun V h => h.cell (row_cell hw 4)
  have HDD := Lib.hid hdd
  have HW := Lib.hid hw
  have HQ := Lib.hid hq
  have HIQ := Lib.hid hiq
  clear hR hml ha hal htr hp hw HM hvl hv hq hiq hdd
  obtain ⟨wz, hwz⟩ : ∃ wz, w.alloc (.cells (valC 0) 53) = wz := ⟨_, rfl⟩
  have hmk := make1 w
  rw [hwz] at hmk
  have zb : Bel w wz := hwz ▸ inferInstance
  have z0 : wz.heap[w.heap.size]? = some (.cells (valC 0) 53 (0, 0)) := hwz ▸ heap_alloc_new _ _
  have r0 : ∀ (V : World) [Bel wz V], V.cell? ⟨w.heap.size, 0, none⟩ = some (.bool false) := fun V h => h.cell (row_cell z0 0)
  have r1 : ∀ (V : World) [Bel wz V], V.cell? ⟨w.heap.size, 1, none⟩ = some (.int .i64 0) := fun V h => h.cell (row_cell z0 1)
  have r2 : ∀ (V : World) [Bel wz V], V.cell? ⟨w.heap.size, 2, none⟩ = some (.slice none 0 0) := fun V h => h.cell (row_cell z0 2)
  have f0 : ∀ (V : World) [Bel wz V], V.frozen? ⟨w.heap.size, 0, none⟩ = false := fun V h => frozen_of_row V _ 0 _ _ ((h.out.block _ (blk_lt z0)).trans z0)
  have f1 : ∀ (V : World) [Bel wz V], V.frozen? ⟨w.heap.size, 1, none⟩ = false := fun V h => frozen_of_row V _ 1 _ _ ((h.out.block _ (blk_lt z0)).trans z0)
  have f2 : ∀ (V : World) [Bel wz V], V.frozen? ⟨w.heap.size, 2, none⟩ = false := fun V h => frozen_of_row V _ 2 _ _ ((h.out.block _ (blk_lt z0)).trans z0)
  have Z0 := Lib.hid z0
  obtain ⟨sz, hsz⟩ : ∃ sz, sizeL (takenL l) = sz := ⟨_, rfl⟩
  rw [hsz] at hs1 hs2
  obtain ⟨mn, hmn⟩ : ∃ mn, (nextL (-1000000) (takenL l)).1 = mn := ⟨_, rfl⟩
  have HSZ := Lib.hid hsz
  have HMN := Lib.hid hmn
  clear hwz z0 hsz hmn
  go_enter Tryz.func109, Tryz.ntmps109
  go_wp2_with fail
  refine wp_loop_rounds 2 ?_
  rw [rounds_succ]
  go_wp2_with fail
  refine (tool_count RA l rc _ hlc (Kd.now HRR.out inferInstance)).mono ?_
  rintro e1 w1 ⟨rfl, HB1⟩
  rw [HSZ.out]
  have b1 : Bel w w1 := zb.trans HB1
  go_wp2_with (at_builtin; refine AccN.app (w0 := w1) (Wr := w1) Acc.nil rfl rfl rfl rfl (by simp) inferInstance (by simp) ?_; intro v1 wa HOa hka; clear hka; simp only [List.nil_append] at HOa; obtain ⟨od, co, rfl, og⟩ := HOa.fresh (by simp); simp only [List.length_cons, List.length_nil, Nat.zero_add] at HOa; have ba : Bel w wa := b1.trans HOa.bel; have bza : Bel wz wa := HB1.trans HOa.bel)
  refine (tool_first RA l rc _ hlc (Kd.now HRR.out inferInstance)).mono ?_
  rintro e2 wf ⟨rfl, HBf⟩
  rw [HMN.out]
  have bf : Bel w wf := ba.trans HBf
  have bzf : Bel wz wf := bza.trans HBf
  have hod := Int.nth HOa.C.2.2 (k := 0) (x := 0) rfl
  obtain ⟨od', eo, oc0⟩ := hod
  cases eo
  change wa.cell? ⟨od, 0, none⟩ = some (.int .i64 0) at oc0
  have HOC := Lib.hid oc0
  have HOG := Lib.hid og
  have HBF := Lib.hid HBf
  clear oc0 og HBf HOa
  go_wp2_with fail
  obtain ⟨ws, hws⟩ : ∃ ws, ((wf.setCell ⟨w.heap.size, 0, none⟩ (.bool false)).setCell ⟨w.heap.size, 1, none⟩ (.int .i64 mn)).setCell ⟨w.heap.size, 2, none⟩ (.slice none 0 0) = ws := ⟨_, rfl⟩
  rw [hws]
  have bs : Bel w ws := by
    rw [← hws]
    exact ⟨((bf.out.setCell (p := ⟨w.heap.size, 0, none⟩) (Nat.le_refl _) _).setCell (p := ⟨w.heap.size, 1, none⟩) (Nat.le_refl _) _).setCell (p := ⟨w.heap.size, 2, none⟩) (Nat.le_refl _) _⟩
  have hrow : ws.heap[w.heap.size]? = some (.cells (valC mn) 53 (0, 0)) := hws ▸ set3 ((bzf.out.block _ (blk_lt Z0.out)).trans Z0.out)
  have odlt : od < wa.heap.size := World.block_lt_of_cell? wa ⟨od, 0, none⟩ HOC.out
  have odne : od ≠ w.heap.size := by have := blk_lt Z0.out; have := HB1.out.size; have := HOG.out; omega
  have oc : ws.cell? ⟨od, 0, none⟩ = some (.int .i64 0) := by
    have hh : ws.heap[od]? = wa.heap[od]? := by
      rw [← hws, heap_setCell_other _ _ _ _ odne, heap_setCell_other _ _ _ _ odne, heap_setCell_other _ _ _ _ odne]
      exact HBF.out.out.block _ odlt
    exact (World.cell?_of_block (w := wa) (a := ⟨od, 0, none⟩) hh).trans HOC.out
  replace oc : ∀ (V : World) [Bel ws V], V.cell? ⟨od, 0, none⟩ = some (.int .i64 0) := fun V h => h.cell oc
  have HROW := Lib.hid hrow
  clear hws hrow odlt odne b1 ba bza bf bzf r0 r1 r2 f0 f1 f2 hmk
  rw [rounds_succ]
  go_wp2_with fail
  refine (tool_count RA l rc _ hlc (Kd.now HRR.out inferInstance)).mono ?_
  rintro e3 wg ⟨rfl, HBg⟩
  rw [HSZ.out]
  have bg : Bel w wg := bs.trans HBg
  go_upto_region 19 with fail
  go_cut [14, 15] from 16 to 124 (fun a b wx => ∃ Al cl, a = .slice Al 1 cl ∧ b = .int .i64 0 ∧ Hid (1 ≤ cl ∧ kVal.C wx Al 1 [⟨false, q, []⟩]) ∧ Hid (Bel w wx))
  case first =>
    go_wp2_with fail
    refine (HL.out _ _ mn _ bg ((HBg.out.block _ (blk_lt HROW.out)).trans HROW.out) (Nat.le_refl _)).mono ?_
    rintro e4 wl ⟨hl1, hl2⟩
    rw [if_pos rfl, HQ.out] at hl1
    obtain ⟨Al, cl, rfl, hcl, hCl⟩ := hl1
    simp only [List.length_cons, List.length_nil, Nat.zero_add] at hcl hCl
    have HCL := Lib.hid (And.intro hcl hCl)
    have HB2 := Lib.hid hl2
    clear hCl hcl hl2
    go_wp2_with fail
    go_meet
    exact ⟨Al, cl, rfl, rfl, HCL, HB2⟩
  case rest =>
    obtain ⟨Al, cl, rfl, rfl, HCC, HB2⟩ := hcut
    have hl2 := HB2.out
    have HCL := Lib.hid HCC.out.2
    go_upto_region 23 with fail
    obtain ⟨wS, hwS⟩ : ∃ wS, wc.setCell ⟨g, 4, none⟩ (.bool false) = wS := ⟨_, rfl⟩
    have bS : Bel wc wS := hwS ▸ Bel.setSame ((hl2.out.block _ (blk_lt HW.out)).trans HW.out) rfl
    have bw : Bel w wS := hl2.trans bS
    have HCS := Lib.hid (Kd.now HCL.out bS)
    rw [hwS]
    clear hwS oc bg bs
    go_upto_region 24 with fail
    have hne : gd ≠ g := fun e => by
      have h1 := HDD.out
      rw [e, HW.out] at h1
      exact absurd h1 (by simp)
    have y2 := w2 wS
    have y0 := d0 wS
    go_region_held3 (fun V => V.cell? ⟨g, 2, none⟩ = some (.slice (some ⟨gd, 0, none⟩) 1 dc) ∧ V.cell? ⟨gd, 0, none⟩ = some (.bool false)) (first | (simp [hne, z2, z0, World.cell?_setCell_far, World.cell?_setCell_other, World.cell?_setCell_same']; done) | exact ⟨y2, y0⟩ | fail) (first | (go_at_call 176; refine (hull_one ⟨false, q, []⟩ HIQ.out _ _ _ (Kd.now HCS.out inferInstance)).mono ?_; rintro e5 wh ⟨gr, cr, rfl, hgr, hcr, hCr, HBh⟩; have bh : Bel w wh := bw.trans (Bel.trans (inferInstance : Bel wS _) HBh); have z2 := w2 wh; have z0 := d0 wh; have z1 := d1 wh; have z22 := d2 wh; have z3 := d3 wh; have z4 := d4 wh; have z5 := d5 wh; have o0 := g0 wh; have o1 := g1 wh; have o2 := g2 wh; have o3 := g3 wh; have o4 := g4 wh; have o5 := g5 wh; have HGR := Lib.hid hgr; have HCRR := Lib.hid hCr; have HBHH := Lib.hid bh; have HWS := Lib.hid bw.out.size; clear d0 d1 d2 d3 d4 d5 g0 g1 g2 g3 g4 g5 w2 w4 fw v0 hgr hCr HBh bh zb bw bS hl2 hs1 hs2))
    all_goals
      go_wp2
      go_ret
      exact last_post HBHH.out HDD.out z0 z1 z22 z3 z4 z5 HWS.out HGR.out hcr HCRR.out
end Go.Proofs.YtkdedpofghlmoaaGreatDoor
