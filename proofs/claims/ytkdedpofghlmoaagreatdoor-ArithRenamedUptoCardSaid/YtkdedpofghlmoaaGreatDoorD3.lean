/- The walks of dom.Next, Has, Min, Max, Size, Same, and of slices.Equal of ranges. No statement is proved here. -/
import Derived.Test.YtkdedpofghlmoaaGreatDoorD2
set_option linter.unusedVariables false
set_option linter.unusedSimpArgs false
namespace Go.Proofs.YtkdedpofghlmoaaGreatDoor
open Go.RowKit Go.Proofs.YtkdedpofghlmoaaGreatDoorW.PrintWords
theorem rightFrom_in : ∀ (l : List Rng) (e : Int), -1000002 ≤ e → rightFrom e l = true → ∀ r ∈ l, e + 1 < r.lo ∧ r.lo ≤ r.hi ∧ r.hi ≤ 1000000 := by
  intro l
  induction l with
  | nil => intro e _ _ r hr; cases hr
  | cons x l ih =>
    intro e he h r hr
    simp only [rightFrom] at h
    split at h
    · exact absurd h (by simp)
    · rename_i hn
      rcases List.mem_cons.1 hr with rfl | hr
      · omega
      · have := ih x.hi (by omega) h r hr
        omega
theorem takenL_in (l : List Rng) : ∀ r ∈ takenL l, -1000000 ≤ r.lo ∧ r.lo ≤ r.hi ∧ r.hi ≤ 1000000 := by
  intro r hr
  unfold takenL at hr
  split at hr
  · rename_i h
    unfold RightL at h
    split at h
    · exact absurd h (by simp)
    · have := rightFrom_in l _ (by omega) h r hr
      omega
  · cases hr
theorem dom_takenT {t : List Rng} (A : Option Addr) (c : Nat) (l : List Rng) (w : World) (hc : l.length ≤ c) (hr : kRng.C w A l.length l) (ht : takenL l = t) :
    Calls Tryz.prog 239 #[.slice A l.length c] w (RetS kRng t w) := ht ▸ dom_taken A c l w hc hr
def nextL (v : Int) : List Rng → Int × Bool
  | [] => (0, false)
  | r :: l => if v ≤ r.hi then (mxi v r.lo, true) else nextL v l
set_option maxHeartbeats 1000000 in
theorem dom_Next (A : Option Addr) (c : Nat) (l : List Rng) (v : Int) (w : World) (hc : l.length ≤ c) (hr : kRng.C w A l.length l) :
    Calls Tryz.prog 260 #[.slice A l.length c, .int .i64 v] w fun e w' => e = .returned (.tuple #[.int .i64 (nextL v (takenL l)).1, .bool (nextL v (takenL l)).2]) ∧ Bel w w' := by
  have HR := Lib.hid hr
  clear hr
  have hlen := takenL_len l
  generalize ht : takenL l = t at *
  have HT := Lib.hid ht
  clear ht
  go_enter Tryz.func260, Tryz.ntmps260
  go_wp2
  go_step3
  go_wp2
  go_step3
  go_wp2_with (go_at_call 239; refine (dom_takenT _ _ _ _ hc HR.out HT.out).mono ?_; rintro e w0 ⟨A1, c1, rfl, hl1, hr1, HB0⟩; have HR1 := Lib.hid hr1; clear hr1)
  go_loopw [6, 7, 13] (fun n b i wr => ∃ (k : Nat), k ≤ t.length ∧ i = .int .i64 k ∧ n = .int .i64 0 ∧ b = .bool false ∧ Bel w0 wr ∧ Hid (nextL v (t.drop k) = nextL v t)) (fun _ _ i _ => t.length - (intOf i).toNat)
  case atStart => exact ⟨0, by omega, rfl, rfl, rfl, inferInstance, Lib.hid (by simp)⟩
  case round =>
    obtain ⟨k, hk, rfl, rfl, rfl, HB, HX⟩ := hrel
    by_cases hlt : k < t.length
    · obtain ⟨r, hr⟩ : ∃ r, t[k]? = some r := ⟨t[k], List.getElem?_eq_getElem hlt⟩
      obtain ⟨ad, rfl, c0, c1⟩ := Rng.nth HR1.out hr
      have HX' := HX.out
      rw [drop_at hr, nextL] at HX'
      clear hr HX
      replace c0 := HB.cell c0
      replace c1 := HB.cell c1
      split at HX' <;> (replace HX' := Lib.hid HX')
      · go_wp2
        rw [Exit.noGoto_ret]
        go_ret2
        exact ⟨ret_ib (x := (_, true)) HX'.out, HB0.trans inferInstance⟩
      · go_wp2
        go_roundw
        case rel => exact ⟨k + 1, by omega, by go_num, rfl, rfl, inferInstance, HX'⟩
        case measure => simp [intOf]; omega
    · go_wp2
      rw [Exit.noGoto_ret]
      go_ret2
      have : k = t.length := by omega
      subst this
      exact ⟨ret_ib (x := (0, false)) (by have := HX.out; rwa [List.drop_length, nextL] at this), HB0.trans inferInstance⟩
theorem dom_NextT {p : Int × Bool} (A : Option Addr) (c : Nat) (l : List Rng) (v : Int) (w : World) (hc : l.length ≤ c) (hr : kRng.C w A l.length l) (hp : nextL v (takenL l) = p) :
    Calls Tryz.prog 260 #[.slice A l.length c, .int .i64 v] w fun e w' => e = .returned (.tuple #[.int .i64 p.1, .bool p.2]) ∧ Bel w w' := hp ▸ dom_Next A c l v w hc hr
def hasL (l : List Rng) (v : Int) : Bool := (nextL v (takenL l)).2 && (nextL v (takenL l)).1 == v
set_option maxHeartbeats 1000000 in
theorem dom_Has (A : Option Addr) (c : Nat) (l : List Rng) (v : Int) (w : World) (hc : l.length ≤ c) (hr : kRng.C w A l.length l) :
    Calls Tryz.prog 295 #[.slice A l.length c, .int .i64 v] w fun e w' => e = .returned (.bool (hasL l v)) ∧ Bel w w' := by
  have HR := Lib.hid hr
  clear hr
  unfold hasL
  generalize hp : nextL v (takenL l) = p
  have HP := Lib.hid hp
  clear hp
  obtain ⟨n, b⟩ := p
  cases b
  all_goals
    go_enter Tryz.func295, Tryz.ntmps295
    go_wp2_with (go_at_call 260; refine (dom_NextT _ _ _ _ _ hc HR.out HP.out).mono ?_; rintro e w0 ⟨rfl, HB⟩)
    all_goals (go_ret; exact ⟨by simp, HB⟩)
theorem dom_Min (A : Option Addr) (c : Nat) (l : List Rng) (w : World) (hc : l.length ≤ c) (hr : kRng.C w A l.length l) :
    Calls Tryz.prog 210 #[.slice A l.length c] w fun e w' => e = .returned (.tuple #[.int .i64 (nextL (-1000000) (takenL l)).1, .bool (nextL (-1000000) (takenL l)).2]) ∧ Bel w w' := by
  have HR := Lib.hid hr
  clear hr
  generalize hp : nextL (-1000000) (takenL l) = p
  have HP := Lib.hid hp
  clear hp
  go_enter Tryz.func210, Tryz.ntmps210
  go_wp2_with (go_at_call 260; refine (dom_NextT _ _ _ _ _ hc HR.out HP.out).mono ?_; rintro e w0 ⟨rfl, HB⟩)
  go_ret2
  exact ⟨rfl, HB⟩
def maxL (l : List Rng) : Int × Bool := match (takenL l).getLast? with | none => (0, false) | some r => (r.hi, true)
set_option maxHeartbeats 1000000 in
theorem dom_Max (A : Option Addr) (c : Nat) (l : List Rng) (w : World) (hc : l.length ≤ c) (hr : kRng.C w A l.length l) :
    Calls Tryz.prog 211 #[.slice A l.length c] w fun e w' => e = .returned (.tuple #[.int .i64 (maxL l).1, .bool (maxL l).2]) ∧ Bel w w' := by
  have HR := Lib.hid hr
  clear hr
  unfold maxL
  have hlen := takenL_len l
  generalize ht : takenL l = t at *
  have HT := Lib.hid ht
  clear ht
  by_cases h0 : 0 < t.length
  · obtain ⟨r, hr⟩ : ∃ r, t[t.length - 1]? = some r := ⟨t[t.length - 1], List.getElem?_eq_getElem (by omega)⟩
    have HN := Lib.hid hr
    rw [List.getLast?_eq_getElem?, hr]
    clear hr
    have h1 : (0 : Int) ≤ (t.length : Int) - 1 := by omega
    have H2 : ((t.length : Int) - 1).toNat = t.length - 1 := by omega
    go_enter Tryz.func211, Tryz.ntmps211
    go_wp2_with (go_at_call 239; refine (dom_takenT _ _ _ _ hc HR.out HT.out).mono ?_; rintro e w0 ⟨A1, c1, rfl, hl1, hr1, HB0⟩; obtain ⟨ad, rfl, c0, c1⟩ := Rng.nth hr1 HN.out; clear hr1)
    go_ret2
    exact ⟨rfl, HB0⟩
  · obtain rfl : t = [] := List.eq_nil_of_length_eq_zero (by omega)
    go_enter Tryz.func211, Tryz.ntmps211
    go_wp2_with (go_at_call 239; refine (dom_takenT _ _ _ _ hc HR.out HT.out).mono ?_; rintro e w0 ⟨A1, c1, rfl, hl1, hr1, HB0⟩; clear hr1)
    go_ret2
    exact ⟨rfl, HB0⟩
def sizeL (l : List Rng) : Int := (l.map fun r => r.hi - r.lo + 1).sum
theorem sizeL_bound (l : List Rng) (h : ∀ r ∈ l, -1000000 ≤ r.lo ∧ r.lo ≤ r.hi ∧ r.hi ≤ 1000000) : 0 ≤ sizeL l ∧ sizeL l ≤ l.length * 2000001 := by
  unfold sizeL
  induction l with
  | nil => simp
  | cons x l ih =>
    have h1 := h x (by simp)
    have h2 := ih (fun r hr => h r (by simp [hr]))
    simp only [List.map_cons, List.sum_cons, List.length_cons]
    omega
set_option maxHeartbeats 1000000 in
theorem dom_Size (A : Option Addr) (c : Nat) (l : List Rng) (w : World) (hc : l.length ≤ c) (hr : kRng.C w A l.length l) :
    Calls Tryz.prog 179 #[.slice A l.length c] w fun e w' => e = .returned (.int .i64 (sizeL (takenL l))) ∧ Bel w w' := by
  have HR := Lib.hid hr
  clear hr
  have hlen := takenL_len l
  have HIN := Lib.hid (takenL_in l)
  generalize ht : takenL l = t at *
  have HT := Lib.hid ht
  clear ht
  go_enter Tryz.func179, Tryz.ntmps179
  go_wp2_with (go_at_call 239; refine (dom_takenT _ _ _ _ hc HR.out HT.out).mono ?_; rintro e w0 ⟨A1, c1, rfl, hl1, hr1, HB0⟩; have HR1 := Lib.hid hr1; clear hr1)
  go_loopw [3, 9] (fun n i wr => ∃ (k : Nat) (s : Int), k ≤ t.length ∧ i = .int .i64 k ∧ n = .int .i64 s ∧ 0 ≤ s ∧ s ≤ k * 2000001 ∧ Bel w0 wr ∧ Hid (s + sizeL (t.drop k) = sizeL t)) (fun _ i _ => t.length - (intOf i).toNat)
  case atStart => exact ⟨0, 0, by omega, rfl, rfl, by omega, by omega, inferInstance, Lib.hid (by simp)⟩
  case round =>
    obtain ⟨k, s, hk, rfl, rfl, hs0, hs1, HB, HX⟩ := hrel
    by_cases hlt : k < t.length
    · obtain ⟨r, hr⟩ : ∃ r, t[k]? = some r := ⟨t[k], List.getElem?_eq_getElem hlt⟩
      obtain ⟨ad, rfl, c0, c1⟩ := Rng.nth HR1.out hr
      obtain ⟨b0, b1, b2⟩ := HIN.out r (List.mem_of_getElem? hr)
      have HX' := HX.out
      rw [drop_at hr] at HX'
      replace HX' := Lib.hid HX'
      clear hr HX
      replace c0 := HB.cell c0
      replace c1 := HB.cell c1
      go_wp2
      go_roundw
      case rel => exact ⟨k + 1, s + (r.hi - r.lo + 1), by omega, by go_num, rfl, by omega, by omega, inferInstance, Lib.hid (by have := HX'.out; simp only [sizeL, List.map_cons, List.sum_cons] at this ⊢; omega)⟩
      case measure => simp [intOf]; omega
    · go_wp2
      go_ret
      have : k = t.length := by omega
      subst this
      exact ⟨ret_i (by have := HX.out; simp [sizeL] at this; simpa [sizeL] using this), HB0.trans HB⟩
end Go.Proofs.YtkdedpofghlmoaaGreatDoor
