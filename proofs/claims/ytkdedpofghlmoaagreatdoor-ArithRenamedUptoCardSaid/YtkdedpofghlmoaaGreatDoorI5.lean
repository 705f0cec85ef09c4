/- The walk of ints.Pow. No statement is proved here. -/
import Derived.Test.YtkdedpofghlmoaaGreatDoorI3
import Derived.Test.YtkdedpofghlmoaaGreatDoorI4
import Derived.RangeFuncBox
import Derived.Sort.QuietIn
set_option linter.unusedVariables false
set_option linter.unusedSimpArgs false
namespace Go.Proofs.YtkdedpofghlmoaaGreatDoor
open Go.RowKit Go.Proofs.YtkdedpofghlmoaaGreatDoorW.PrintWords
attribute [local go_sem] Oper.semAt_some
def pnumF (a : Nat) (pre : List Bool) : Nat := pre.foldl (fun a b => 2 * a + (if b then 1 else 0)) a
def pnum (pre : List Bool) : Nat := pnumF 0 pre
theorem pnumF_bits (e : Nat) : ∀ k a, pnumF a (bitsTo e k) = a * 2 ^ k + e % 2 ^ k
  | 0, a => by simp [bitsTo, pnumF, Nat.mod_one]
  | k + 1, a => by
    have h := pnumF_bits e k (2 * a + (if (e / 2 ^ k % 2 == 1) then 1 else 0))
    simp only [pnumF, bitsTo, List.foldl_cons] at h ⊢
    rw [h, Nat.mod_pow_succ]
    rcases Nat.mod_two_eq_zero_or_one (e / 2 ^ k) with h0 | h0 <;> rw [h0] <;> simp [Nat.pow_succ, Nat.add_mul] <;> simp [Nat.mul_comm, Nat.mul_left_comm, Nat.mul_assoc, Nat.add_assoc, Nat.add_comm, Nat.add_left_comm]
theorem pnum_bits (e L : Nat) (h : e < 2 ^ L) : pnum (bitsTo e L) = e := by
  rw [pnum, pnumF_bits, Nat.zero_mul, Nat.zero_add, Nat.mod_eq_of_lt h]
theorem pnum_snoc (pre : List Bool) (x : Bool) : pnum (pre ++ [x]) = 2 * pnum pre + (if x then 1 else 0) := by simp [pnum, pnumF]
theorem pnumF_le : ∀ (l : List Bool) (a : Nat), a ≤ pnumF a l
  | [], a => Nat.le_refl _
  | x :: l, a => by
    have := pnumF_le l (2 * a + (if x then 1 else 0))
    simp only [pnumF, List.foldl_cons] at this ⊢
    omega
theorem pnum_pre {pre l : List Bool} (h : pre <+: l) : pnum pre ≤ pnum l := by
  obtain ⟨t, rfl⟩ := h
  rw [pnum, pnum, pnumF, pnumF, List.foldl_append]
  exact pnumF_le t _
theorem pow_out {b : Int} (hb : 2 ≤ b.natAbs) {j e : Nat} (hje : j ≤ e) (h : in64 (b ^ j) = false) : in64 (b ^ e) = false := by
  rcases Nat.lt_or_eq_of_le hje with hlt | rfl
  · have h1 : 9223372036854775808 ≤ (b ^ j).natAbs := by
      simp only [in64, Bool.and_eq_false_iff, decide_eq_false_iff_not] at h
      omega
    have h2 : 2 * (b ^ j).natAbs ≤ (b ^ e).natAbs := by
      rw [Int.natAbs_pow, Int.natAbs_pow]
      calc 2 * b.natAbs ^ j ≤ b.natAbs * b.natAbs ^ j := Nat.mul_le_mul_right _ hb
        _ = b.natAbs ^ (j + 1) := by rw [Nat.pow_succ, Nat.mul_comm]
        _ ≤ b.natAbs ^ e := Nat.pow_le_pow_right (by omega) hlt
    simp only [in64, Bool.and_eq_false_iff, decide_eq_false_iff_not]
    omega
  · exact h
theorem ints_small_e {b e : Int} {s : Int × Int × Bool} (h : smallL b e = s) (w : World) :
    Calls Tryz.prog 257 #[.int .i64 b, .int .i64 e] w fun e' w' => e' = .returned (.tuple #[.int .i64 s.1, .int .i64 s.2.1, .bool s.2.2]) ∧ w' = w := h ▸ ints_small b e w
theorem ints_Mul_e {x y : Int} {p : Int × Int} (hx : Hid (in64 x = true)) (hy : Hid (in64 y = true)) (hp : Hid (fitL (x * y) = p)) (w : World) :
    Calls Tryz.prog 198 #[.int .i64 x, .int .i64 y] w fun e w' => e = .returned (.tuple #[.int .i64 p.1, .int .i64 p.2]) ∧ w' = w := hp.out ▸ ints_Mul x y hx.out hy.out w
theorem fit_yes {v : Int} (h : in64 v = true) : fitL v = (v, 0) := by simp [fitL, h]
theorem fit_no {v : Int} (h : in64 v = false) : fitL v = (0, 10) := by simp [fitL, h]
def powL (b e : Int) : Int × Int := if (smallL b e).2.2 then ((smallL b e).1, (smallL b e).2.1) else fitL (b ^ e.toNat)
theorem small_no {b e : Int} (h : (smallL b e).2.2 = false) : 2 ≤ b.natAbs ∧ 0 < e := by
  unfold smallL at h
  split at h; · simp at h
  split at h; · simp at h
  split at h; · simp at h
  split at h; · simp at h
  omega
theorem blen_lt : ∀ (f x : Nat), x < 2 ^ f → x < 2 ^ Lib.bitLenAux f x
  | 0, x, h => by simpa [Lib.bitLenAux] using h
  | f + 1, x, h => by
    unfold Lib.bitLenAux
    split
    · omega
    · have := blen_lt f (x / 2) (by rw [Nat.pow_succ] at h; omega)
      rw [Nat.add_comm 1, Nat.pow_succ]
      omega
theorem blen_le : ∀ (f x k : Nat), x < 2 ^ k → Lib.bitLenAux f x ≤ k
  | 0, x, k, h => by simp [Lib.bitLenAux]
  | f + 1, x, k, h => by
    unfold Lib.bitLenAux
    split
    · omega
    · cases k with
      | zero => simp at h; omega
      | succ k =>
        have := blen_le f (x / 2) k (by rw [Nat.pow_succ] at h; omega)
        omega
theorem below_of_drewN {n : Nat} (W : World) (k : Nat) : Below n W (W.drewN k) := by
  exact pw_below_drewN (Below.refl _ _) k
theorem boxed_k {A B : World} {b : Nat} {t : TypeId} {v : Value} {row : Option Nat} (h : Boxed A b t v) (hg : A.grownBy B row) (hr : ∀ r, row = some r → ∃ o : Obj, A.heap[r]? = some o ∧ o.isCells = false) : Boxed B b t v :=
  h.kept hg (fun e => by obtain ⟨o, ho, hc⟩ := hr b e.symm; rw [show A.heap[b]? = _ from h] at ho; cases ho; cases hc)
theorem KeepE.set {S : Nat → Prop} {W : World} {b : Nat} {t : TypeId} {u v : Value} (h : Boxed W b t u) (hS : ∀ k, S k → k ≠ b ∧ k < W.heap.size) : KeepE S W (W.setCell ⟨b, 0, none⟩ v) := by
  have hg := grownBy_setCell' W b v
  refine ⟨fun k hk => hg.block k (hS k hk).2 (fun e => (hS k hk).1 (by cases e; rfl)), fun k x y hk => (hg.block k (blk_lt hk) (fun e => ?_)).trans hk⟩
  cases e
  rw [show W.heap[b]? = _ from h] at hk
  simp at hk
theorem KeepE.put {S : Nat → Prop} (W : World) (l : Nat) (o o' : Obj) (hS : ∀ k, S k → k < l) (ho : W.heap[l]? = some o) (hc : o.isCells = false) : KeepE S W (W.putObj l o') := by
  refine ⟨fun k hk => World.putObj_heap_other (fun e => by have := hS k hk; omega), fun k x y hk => ?_⟩
  refine Eq.trans (World.putObj_heap_other (fun e => ?_)) hk
  subst e
  rw [hk] at ho
  cases ho
  cases hc
set_option maxRecDepth 100000 in
set_option maxHeartbeats 1000000 in
theorem ints_Pow (b e : Int) (hb : in64 b = true) (he : in64 e = true) (w : World) :
    Calls Tryz.prog 201 #[.int .i64 b, .int .i64 e] w fun e' w' => e' = .returned (.tuple #[.int .i64 (powL b e).1, .int .i64 (powL b e).2]) ∧ Bel w w' := by
  unfold powL
  have hsm := @small_no b e
  obtain ⟨s, hs⟩ : ∃ s, smallL b e = s := ⟨_, rfl⟩
  rw [hs] at hsm
  rw [hs]
  obtain ⟨s1, s2, s3⟩ := s
  have HS := Lib.hid hs
  clear hs
  cases s3 with
  | true =>
    clear hsm
    simp only [if_true]
    go_enter Tryz.func201, Tryz.ntmps201
    go_wp2
    go_step3
    go_wp2_with (go_at_call 257; refine (ints_small_e HS.out _).mono ?_; rintro e' w1 ⟨rfl, rfl⟩)
    rw [Exit.noGoto_ret]
    go_ret2
    exact ⟨rfl, inferInstance⟩
  | false =>
    simp only [if_false, Bool.false_eq_true]
    obtain ⟨hb2, he2⟩ := hsm rfl
    clear hsm
    obtain ⟨m, rfl⟩ : ∃ m : Nat, e = (m : Int) := ⟨e.toNat, by omega⟩
    have hm1 : (m : Int) ≤ 9223372036854775807 := by
      simp only [in64, Bool.and_eq_true, decide_eq_true_eq] at he
      exact he.2
    rw [Int.toNat_natCast]
    have hL1 : 1 ≤ Lib.bitLen m := by
      unfold Lib.bitLen Lib.bitLenAux
      rw [if_neg (by omega)]
      omega
    have hL2 : Lib.bitLen m ≤ 63 := blen_le _ _ _ (by omega)
    have hLe : m < 2 ^ Lib.bitLen m := blen_lt _ _ (by omega)
    obtain ⟨L, hL⟩ : ∃ L, Lib.bitLen m = L := ⟨_, rfl⟩
    rw [hL] at hL1 hL2 hLe
    have HBS := Lib.hid (pnum_bits m L hLe)
    have HBb := Lib.hid hb
    clear hLe hb he
    have HLm := Lib.hid hL
    clear hL
    obtain ⟨r, hr⟩ : ∃ r, fitL (b ^ m) = r := ⟨_, rfl⟩
    rw [hr]
    have HR := Lib.hid hr
    clear hr
    refine (callsIn_wide (n := 3)).1 ?_
    refine callsIn_of_wp_marks Tryz.func201 rfl trivial ?_ rfl
    simp only [Tryz.ntmps201, List.size_toArray, List.length_cons, List.length_nil, Nat.reduceAdd, Nat.reduceSub, Array.replicate_succ, Array.replicate_zero, List.push_toArray, List.append_toArray, List.nil_append, List.cons_append]
    refine wpIn_wide.2 ?_
    go_wp2
    go_step3
    go_wp2_with (first | (go_at_call 257; refine (ints_small_e HS.out _).mono ?_; rintro e' w1 ⟨rfl, rfl⟩) | (go_at_call 258; refine (ints_digits _ _).mono ?_; rintro e1 w1 ⟨rfl, rfl⟩))
    go_step3
    go_wp2_with (go_at_call 258; refine (ints_digits _ _).mono ?_; rintro e1 w1 ⟨rfl, rfl⟩)
    have b0 := ((Boxed.new w 2 (.int .i64 b)).alloc (.cells #[.int .i64 1] 2)).alloc (.cells #[.int .i64 0] 27)
    have b1 := (Boxed.new (w.alloc (.cells #[.int .i64 b] 2)) 2 (.int .i64 1)).alloc (.cells #[.int .i64 0] 27)
    have b2 := Boxed.new ((w.alloc (.cells #[.int .i64 b] 2)).alloc (.cells #[.int .i64 1] 2)) 27 (.int .i64 0)
    replace b0 := b0.alloc (.cells #[.int .i64 m] 2)
    replace b1 := b1.alloc (.cells #[.int .i64 m] 2)
    replace b2 := b2.alloc (.cells #[.int .i64 m] 2)
    have b3 := Boxed.new (((w.alloc (.cells #[.int .i64 b] 2)).alloc (.cells #[.int .i64 1] 2)).alloc (.cells #[.int .i64 0] 27)) 2 (.int .i64 m)
    have hB0 : Bel w ((((w.alloc (.cells #[.int .i64 b] 2)).alloc (.cells #[.int .i64 1] 2)).alloc (.cells #[.int .i64 0] 27)).alloc (.cells #[.int .i64 m] 2)) := inferInstance
    simp only [World.size_alloc] at b0 b1 b2 b3
    obtain ⟨W0, hW0⟩ : ∃ W0, (((w.alloc (.cells #[.int .i64 b] 2)).alloc (.cells #[.int .i64 1] 2)).alloc (.cells #[.int .i64 0] 27)).alloc (.cells #[.int .i64 m] 2) = W0 := ⟨_, rfl⟩
    have hsz : W0.heap.size = w.heap.size + 1 + 1 + 1 + 1 := by rw [← hW0]; simp
    rw [hW0] at b0 b1 b2 b3 hB0 ⊢
    obtain ⟨h, hh⟩ : ∃ h, w.heap.size = h := ⟨_, rfl⟩
    rw [hh] at b0 b1 b2 b3 hsz ⊢
    refine (wpIn_wide (n := 3)).1 ?_
    refine wpIn_rangeFunc_ownG (n := 3) rfl (by omega) (gf := 289) (lb := #[.pointer (some ⟨h + 1 + 1 + 1, 0, none⟩)]) rfl trivial (enters_of Tryz.func289 (by kernel_rfl) rfl)
      (digits1 2 (by omega) (h + 1 + 1 + 1) m W0 (by omega) hm1 L HLm.out hL1 hL2 b3.cell (fun k => k = h + 1 + 1 + 1) rfl (fun k e => by omega)) KeepE.trans
      (fun W l o o' hl ho hc _ => KeepE.put W l o o' (fun k e => by omega) ho hc) (Below.refl _ _) (fun _ => rfl)
      (fun pre W => (Boxed W h 2 (.int .i64 b) ∧ Boxed W (h + 1) 2 (.int .i64 (b ^ pnum pre)) ∧ Boxed W (h + 1 + 1) 27 (.int .i64 0) ∧ Hid (in64 (b ^ pnum pre) = true) ∧ h + 1 + 1 + 1 < W.heap.size) ∧ Below h w W)
      (fun c pre W => (c = .exit 0 ∧ Boxed W (h + 1 + 1) 27 (.int .i64 10) ∧ Hid (∃ j, j ≤ pnum pre ∧ in64 (b ^ j) = false)) ∧ Below h w W)
      (OwnFrom.and (Own.from (fun s A B row hs hg hr => ⟨boxed_k hs.1 hg hr, boxed_k hs.2.1 hg hr, boxed_k hs.2.2.1 hg hr, hs.2.2.2.1, Nat.lt_of_lt_of_le hs.2.2.2.2 hg.size⟩) _) (ownFrom_below (by omega) (by omega)))
      (fun c => OwnFrom.and (Own.from (fun s A B row hs hg hr => ⟨hs.1, boxed_k hs.2.1 hg hr, hs.2.2⟩) _) (ownFrom_below (by omega) (by omega)))
      ⟨⟨b0, by rw [show pnum [] = 0 from rfl, Int.pow_zero]; exact b1, b2, Lib.hid (by simp [pnum, pnumF, in64]), by omega⟩, hh ▸ hB0.out⟩
      (fun x => { tmps := #[.int .i64 b, .int .i64 m, .pointer (some ⟨h, 0, none⟩), undef, .int .i64 0, .int .i64 0, .int .i64 s1, .int .i64 s2, .bool false, .pointer (some ⟨h + 1, 0, none⟩), .pointer (some ⟨h + 1 + 1, 0, none⟩), .bool x, .tuple #[.int .i64 s1, .int .i64 s2, .bool false], .int .i64 b, .int .i64 m, .tuple #[.int .i64 s1, .int .i64 s2, .bool false], .int .i64 s1, .int .i64 s2, .bool false, .bool false, undef, undef, .int .i64 m, .func (.func 289) #[] #[.pointer (some ⟨h + 1 + 1 + 1, 0, none⟩)], .bool x, undef, undef, undef, undef, undef, undef, undef, undef, undef, undef, undef, undef, undef, undef, undef, undef, undef, undef, undef, undef, undef], defers := [] }) ?assign ?body ?done ?stop
    case assign =>
      intro l x W K hK
      gi_wp2
      exact hK
    case body =>
      rintro l pre x W ⟨⟨c0, c1, c2, HI, hsW⟩, hBW⟩ _
      have d0 := c0.cell
      have d1 := c1.cell
      have d2 := c2.cell
      have f1 := c1.frozen
      have f2 := c2.frozen
      have hp2 : b ^ (2 * pnum pre) = b ^ pnum pre * b ^ pnum pre := by rw [Nat.two_mul, Int.pow_add]
      obtain ⟨v, hv⟩ : ∃ v, b ^ pnum pre = v := ⟨_, rfl⟩
      rw [hv] at c1 d1 HI hp2
      have HP := Lib.hid hp2
      have HV := Lib.hid hv
      have HBw := Lib.hid hBW
      clear hp2 hv hBW
      cases hin : in64 (v * v) with
      | false =>
        have HM := Lib.hid (fit_no hin)
        have HN := Lib.hid hin
        clear hin
        gi_wp2_with (refine ⟨trivial, ?_⟩; gi_at_call 198; refine (CallsIn.inRound l (callsIn_wide.2 (ints_Mul_e HI HI HM _))).mono ?_; rintro e1 w1 ⟨rfl, rfl⟩)
        clear d0 d1 d2 f1 f2
        refine ⟨((KeepsOthers.setCell _ _ _).trans (KeepsOthers.setCell _ _ _)).from _, ⟨rfl, (c2.other (by omega) _).set _, Lib.hid ⟨2 * pnum pre, by rw [pnum_snoc]; omega, by rw [HP.out]; exact HN.out⟩⟩, (HBw.out.setCell (p := ⟨h + 1, 0, none⟩) (by show h ≤ h + 1; omega) _).setCell (p := ⟨h + 1 + 1, 0, none⟩) (by show h ≤ h + 1 + 1; omega) _⟩
      | true =>
        have HM := Lib.hid (fit_yes hin)
        have HI2 := Lib.hid hin
        clear hin
        cases x with
        | false =>
          gi_wp2_with (refine ⟨trivial, ?_⟩; gi_at_call 198; refine (CallsIn.inRound l (callsIn_wide.2 (ints_Mul_e HI HI HM _))).mono ?_; rintro e1 w1 ⟨rfl, rfl⟩)
          clear d0 d1 d2 f1 f2
          have e2 : b ^ pnum (pre ++ [false]) = v * v := by rw [pnum_snoc]; exact HP.out
          have k1 : KeepE (fun k => k = h + 1 + 1 + 1) w1 (w1.setCell ⟨h + 1, 0, none⟩ (.int .i64 (v * v))) := KeepE.set c1 (fun k e => by omega)
          have k2 : KeepE (fun k => k = h + 1 + 1 + 1) (w1.setCell ⟨h + 1, 0, none⟩ (.int .i64 (v * v))) ((w1.setCell ⟨h + 1, 0, none⟩ (.int .i64 (v * v))).setCell ⟨h + 1 + 1, 0, none⟩ (.int .i64 0)) := KeepE.set (c2.other (by omega) _) (fun k e => ⟨by omega, by rw [World.size_setCell]; omega⟩)
          refine ⟨((KeepsOthers.setCell _ _ _).trans (KeepsOthers.setCell _ _ _)).from _, k1.trans k2, ⟨(c0.other (by omega) _).other (by omega) _, ?_, (c2.other (by omega) _).set _, Lib.hid ?_, by rw [World.size_setCell, World.size_setCell]; omega⟩, (HBw.out.setCell (p := ⟨h + 1, 0, none⟩) (by show h ≤ h + 1; omega) _).setCell (p := ⟨h + 1 + 1, 0, none⟩) (by show h ≤ h + 1 + 1; omega) _⟩
          · rw [e2]
            exact (c1.set _).other (by omega) _
          · rw [e2]
            exact HI2.out
        | true =>
          have e2 : b ^ pnum (pre ++ [true]) = v * v * b := by rw [pnum_snoc, if_pos rfl, Int.pow_succ, HP.out]
          have E2 := Lib.hid e2
          clear e2
          have g0 := Lib.hid ((c0.other (B' := h + 1) (by omega) (.int .i64 (v * v))).other (B' := h + 1 + 1) (by omega) (.int .i64 0))
          have g1 := Lib.hid ((c1.set (.int .i64 (v * v))).other (B' := h + 1 + 1) (by omega) (.int .i64 0))
          have g2 := Lib.hid ((c2.other (B' := h + 1) (by omega) (.int .i64 (v * v))).set (.int .i64 0))
          have k1 : KeepE (fun k => k = h + 1 + 1 + 1) W (W.setCell ⟨h + 1, 0, none⟩ (.int .i64 (v * v))) := KeepE.set c1 (fun k e => by omega)
          have k2 : KeepE (fun k => k = h + 1 + 1 + 1) (W.setCell ⟨h + 1, 0, none⟩ (.int .i64 (v * v))) ((W.setCell ⟨h + 1, 0, none⟩ (.int .i64 (v * v))).setCell ⟨h + 1 + 1, 0, none⟩ (.int .i64 0)) := KeepE.set (c2.other (by omega) _) (fun k e => ⟨by omega, by rw [World.size_setCell]; omega⟩)
          have hBn := Lib.hid ((HBw.out.setCell (p := ⟨h + 1, 0, none⟩) (by show h ≤ h + 1; omega) (.int .i64 (v * v))).setCell (p := ⟨h + 1 + 1, 0, none⟩) (by show h ≤ h + 1 + 1; omega) (.int .i64 0))
          have hKO := Lib.hid ((KeepsOthers.setCell W ⟨h + 1, 0, none⟩ (.int .i64 (v * v))).trans (KeepsOthers.setCell _ ⟨h + 1 + 1, 0, none⟩ (.int .i64 0)))
          have hsz2 : ((W.setCell ⟨h + 1, 0, none⟩ (.int .i64 (v * v))).setCell ⟨h + 1 + 1, 0, none⟩ (.int .i64 0)).heap.size = W.heap.size := by rw [World.size_setCell, World.size_setCell]
          have hK2 := Lib.hid (k1.trans k2)
          clear k1 k2
          gi_wp2_with (refine ⟨trivial, ?_⟩; gi_at_call 198; refine (CallsIn.inRound l (callsIn_wide.2 (ints_Mul_e HI HI HM _))).mono ?_; clear HM; rintro e1 w1 ⟨rfl, rfl⟩)
          generalize ((World.setCell _ ⟨h + 1, 0, none⟩ (.int .i64 (v * v))).setCell ⟨h + 1 + 1, 0, none⟩ (.int .i64 0)) = W2 at *
          clear c1 c2 d0 d1 d2 f1 f2
          have d1 := g1.out.cell
          have d2 := g2.out.cell
          have f1 := g1.out.frozen
          have f2 := g2.out.frozen
          refine ⟨trivial, ?_⟩
          cases hin : in64 (v * v * b) with
          | false =>
            have HM2 := Lib.hid (fit_no hin)
            have HN := Lib.hid hin
            clear hin
            refine (CallsIn.inRound l (callsIn_wide.2 (ints_Mul_e HI2 HBb HM2 _))).mono ?_
            rintro e1 w2 ⟨rfl, rfl⟩
            gi_wp2
            clear d1 d2 f1 f2
            have q1 := g1.out
            have q2 := g2.out
            refine ⟨(hKO.out.trans ((KeepsOthers.setCell _ _ _).trans (KeepsOthers.setCell _ _ _))).from _, ⟨rfl, (q2.other (by omega) _).set _, Lib.hid ⟨pnum (pre ++ [true]), Nat.le_refl _, by rw [E2.out]; exact HN.out⟩⟩, (hBn.out.setCell (p := ⟨h + 1, 0, none⟩) (by show h ≤ h + 1; omega) _).setCell (p := ⟨h + 1 + 1, 0, none⟩) (by show h ≤ h + 1 + 1; omega) _⟩
          | true =>
            have HM2 := Lib.hid (fit_yes hin)
            have HN := Lib.hid hin
            clear hin
            refine (CallsIn.inRound l (callsIn_wide.2 (ints_Mul_e HI2 HBb HM2 _))).mono ?_
            rintro e1 w2 ⟨rfl, rfl⟩
            gi_wp2
            clear d1 d2 f1 f2
            have q0 := g0.out
            have q1 := g1.out
            have q2 := g2.out
            have k1 : KeepE (fun k => k = h + 1 + 1 + 1) w2 (w2.setCell ⟨h + 1, 0, none⟩ (.int .i64 (v * v * b))) := KeepE.set q1 (fun k e => by omega)
            have k2 : KeepE (fun k => k = h + 1 + 1 + 1) (w2.setCell ⟨h + 1, 0, none⟩ (.int .i64 (v * v * b))) ((w2.setCell ⟨h + 1, 0, none⟩ (.int .i64 (v * v * b))).setCell ⟨h + 1 + 1, 0, none⟩ (.int .i64 0)) := KeepE.set (q2.other (by omega) _) (fun k e => ⟨by omega, by rw [World.size_setCell]; omega⟩)
            refine ⟨(hKO.out.trans ((KeepsOthers.setCell _ _ _).trans (KeepsOthers.setCell _ _ _))).from _, hK2.out.trans (k1.trans k2), ⟨(q0.other (by omega) _).other (by omega) _, ?_, (q2.other (by omega) _).set _, Lib.hid ?_, by rw [World.size_setCell, World.size_setCell]; omega⟩, (hBn.out.setCell (p := ⟨h + 1, 0, none⟩) (by show h ≤ h + 1; omega) _).setCell (p := ⟨h + 1 + 1, 0, none⟩) (by show h ≤ h + 1 + 1; omega) _⟩
            · rw [E2.out]
              exact (q1.set _).other (by omega) _
            · rw [E2.out]
              exact HN.out
    case done =>
      rintro D ys W hD rfl ⟨⟨c0, c1, c2, HI, hsW⟩, hBW⟩ hK
      have d1 := c1.cell
      have d2 := c2.cell
      go_wp2
      rw [Exit.noGoto_ret]
      refine ⟨by simp, .inl ⟨_, _, rfl, run_takeDeferred hK, ?_⟩⟩
      refine ⟨_, results_tmp2 rfl _ _ _, ?_, ⟨?_⟩⟩
      · rw [← HR.out, fit_yes (by have := HI.out; rwa [HBS.out] at this)]
        show Ending.returned (.tuple #[.int .i64 (b ^ pnum (bitsTo m L)), .int .i64 0]) = _
        rw [HBS.out]
      · rw [hh]
        exact hBW.trans (belowK_b (w := W0) (by omega) W D _ _ (by omega) hK rfl rfl)
    case stop =>
      rintro D c pre W hD hpre ⟨⟨rfl, c2, HJ⟩, hBW⟩ hK
      have d2 := c2.cell
      have hr2 : r = (0, 10) := by
        obtain ⟨j, hj, ho⟩ := HJ.out
        rw [← HR.out]
        exact fit_no (pow_out hb2 (by have := pnum_pre hpre; rw [HBS.out] at this; omega) ho)
      subst hr2
      gi_wp2
      go_wp2
      go_quiet (fail)
      go_wp2
      rw [Exit.noGoto_ret]
      refine ⟨by simp, .inl ⟨_, _, rfl, run_takeDeferred hK, ?_⟩⟩
      refine ⟨_, results_tmp2 rfl _ _ _, rfl, ⟨?_⟩⟩
      rw [hh]
      refine (hBW.trans (below_of_drewN W _)).trans (belowK_b (w := W0) (n₀ := h) ?_ _ D _ _ ?_ hK rfl rfl)
      · omega
      · omega
end Go.Proofs.YtkdedpofghlmoaaGreatDoor
