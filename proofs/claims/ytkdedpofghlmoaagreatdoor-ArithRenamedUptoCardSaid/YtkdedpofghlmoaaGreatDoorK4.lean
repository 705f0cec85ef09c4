/- What is asked of a term by a letter: coef, truth, set, whole, truths, sets1, by. No statement is proved here. -/
import Derived.Test.YtkdedpofghlmoaaGreatDoorK3
set_option linter.unusedVariables false
set_option linter.unusedSimpArgs false
namespace Go.Proofs.YtkdedpofghlmoaaGreatDoor
open Go.RowKit Go.Proofs.YtkdedpofghlmoaaGreatDoorW.PrintWords
theorem cons_coef (sl : Value) (v : Int) (st : Bool) (n : Int) (A : Option Addr) (m c : Nat) (w : World) :
    Calls Tryz.prog 215 #[.agg #[sl], .agg #[.int .i64 v, .bool st, .int .i64 n, .slice A m c]] w fun e w' => e = .returned (.bool (numR v st n m (-1000000000) 1000000000)) ∧ Bel w w' := by
  go_enter Tryz.func215, Tryz.ntmps215
  go_wp2_with (go_at_call 265; refine (cons_number _ _ _ _ _ _ _ _ _ _).mono ?_; rintro e w1 ⟨rfl, HB1⟩)
  go_ret
  exact ⟨rfl, Bel.trans inferInstance HB1⟩
theorem cons_truth (sl : Value) (v : Int) (st : Bool) (n : Int) (A : Option Addr) (m c : Nat) (w : World) :
    Calls Tryz.prog 216 #[.agg #[sl], .agg #[.int .i64 v, .bool st, .int .i64 n, .slice A m c]] w fun e w' => e = .returned (.bool (numR v st n m 0 1)) ∧ Bel w w' := by
  go_enter Tryz.func216, Tryz.ntmps216
  go_wp2_with (go_at_call 265; refine (cons_number _ _ _ _ _ _ _ _ _ _).mono ?_; rintro e w1 ⟨rfl, HB1⟩)
  go_ret
  exact ⟨rfl, Bel.trans inferInstance HB1⟩
set_option maxHeartbeats 400000 in
theorem cons_whole (B : Option Addr) (d : Nat) (ks : List Bool) (v : Int) (st : Bool) (n : Int) (A : Option Addr) (m c : Nat) (w : World) (hk : Kd.bool.C w B ks.length ks) :
    Calls Tryz.prog 218 #[.agg #[.slice B ks.length d], .agg #[.int .i64 v, .bool st, .int .i64 n, .slice A m c]] w fun e w' => e = .returned (.bool (varR ks false v st n m || numR v st n m (-1000000) 1000000)) ∧ Bel w w' := by
  have HK := Lib.hid hk
  clear hk
  cases hv : varR ks false v st n m with
  | true =>
    have HV := Lib.hid hv
    clear hv
    go_enter Tryz.func218, Tryz.ntmps218
    go_wp2_with (go_at_call 267; refine (cons_variable _ _ _ _ _ _ _ _ _ _ _ (Kd.now HK.out inferInstance)).mono ?_; rintro e w1 ⟨rfl, HB1⟩; rw [HV.out])
    go_ret
    exact ⟨ret_b (by simp), Bel.trans inferInstance HB1⟩
  | false =>
    have HV := Lib.hid hv
    clear hv
    go_enter Tryz.func218, Tryz.ntmps218
    go_wp2_with fail
    refine (cons_variable _ _ _ _ _ _ _ _ _ _ _ (Kd.now HK.out inferInstance)).mono ?_
    rintro e w1 ⟨rfl, HB1⟩
    rw [HV.out]
    have c0 := Bel.box (Bel.trans inferInstance HB1 : Bel (w.alloc (.cells #[.slice B ks.length d] 167)) w1) rfl 0 rfl
    have d0 := Bel.box (g := w.heap.size + 1) HB1 (by simp) 0 rfl
    have d1 := Bel.box (g := w.heap.size + 1) HB1 (by simp) 1 rfl
    have d2 := Bel.box (g := w.heap.size + 1) HB1 (by simp) 2 rfl
    have d3 := Bel.box (g := w.heap.size + 1) HB1 (by simp) 3 rfl
    go_wp2_with (go_at_call 265; refine (cons_number _ _ _ _ _ _ _ _ _ _).mono ?_; rintro e w2 ⟨rfl, HB2⟩)
    go_ret
    exact ⟨ret_b (by simp), (Bel.trans inferInstance HB1).trans HB2⟩
set_option maxHeartbeats 400000 in
theorem cons_truths (B : Option Addr) (d : Nat) (ks : List Bool) (v : Int) (st : Bool) (n : Int) (A : Option Addr) (m c : Nat) (w : World) (hk : Kd.bool.C w B ks.length ks) :
    Calls Tryz.prog 219 #[.agg #[.slice B ks.length d], .agg #[.int .i64 v, .bool st, .int .i64 n, .slice A m c]] w fun e w' => e = .returned (.bool (varR ks false v st n m || numR v st n m 0 1)) ∧ Bel w w' := by
  have HK := Lib.hid hk
  clear hk
  cases hv : varR ks false v st n m with
  | true =>
    have HV := Lib.hid hv
    clear hv
    go_enter Tryz.func219, Tryz.ntmps219
    go_wp2_with (go_at_call 267; refine (cons_variable _ _ _ _ _ _ _ _ _ _ _ (Kd.now HK.out inferInstance)).mono ?_; rintro e w1 ⟨rfl, HB1⟩; rw [HV.out])
    go_ret
    exact ⟨ret_b (by simp), Bel.trans inferInstance HB1⟩
  | false =>
    have HV := Lib.hid hv
    clear hv
    go_enter Tryz.func219, Tryz.ntmps219
    go_wp2_with fail
    refine (cons_variable _ _ _ _ _ _ _ _ _ _ _ (Kd.now HK.out inferInstance)).mono ?_
    rintro e w1 ⟨rfl, HB1⟩
    rw [HV.out]
    have c0 := Bel.box (Bel.trans inferInstance HB1 : Bel (w.alloc (.cells #[.slice B ks.length d] 167)) w1) rfl 0 rfl
    have d0 := Bel.box (g := w.heap.size + 1) HB1 (by simp) 0 rfl
    have d1 := Bel.box (g := w.heap.size + 1) HB1 (by simp) 1 rfl
    have d2 := Bel.box (g := w.heap.size + 1) HB1 (by simp) 2 rfl
    have d3 := Bel.box (g := w.heap.size + 1) HB1 (by simp) 3 rfl
    go_wp2_with (go_at_call 216; refine (cons_truth _ _ _ _ _ _ _ _).mono ?_; rintro e w2 ⟨rfl, HB2⟩)
    go_ret
    exact ⟨ret_b (by simp), (Bel.trans inferInstance HB1).trans HB2⟩
def setR (v : Int) (st : Bool) (n : Int) (s : List Int) : Bool := decide (v = -1) && st && decide (n = 0) && SetB s
set_option maxHeartbeats 400000 in
theorem cons_set (sl : Value) (v : Int) (st : Bool) (n : Int) (A : Option Addr) (s : List Int) (c : Nat) (w : World) (hr : (Kd.int .i64).C w A s.length s) :
    Calls Tryz.prog 217 #[.agg #[sl], .agg #[.int .i64 v, .bool st, .int .i64 n, .slice A s.length c]] w fun e w' => e = .returned (.bool (setR v st n s)) ∧ Bel w w' := by
  have HR := Lib.hid hr
  clear hr
  unfold setR
  by_cases h1 : v = -1
  · subst h1
    cases st with
    | false => go_enter Tryz.func217, Tryz.ntmps217; go_wp2; go_ret; exact ⟨ret_b (by simp), inferInstance⟩
    | true =>
      by_cases h2 : n = 0
      · subst h2
        go_enter Tryz.func217, Tryz.ntmps217
        go_wp2_with (go_at_call 266; refine (cons_isSet _ _ _ _ (Kd.now HR.out inferInstance)).mono ?_; rintro e w1 ⟨rfl, HB1⟩)
        go_ret
        exact ⟨ret_b (by simp), Bel.trans inferInstance HB1⟩
      · have h2' : (n == 0) = false := by simpa using h2
        go_enter Tryz.func217, Tryz.ntmps217; go_wp2; go_ret; exact ⟨ret_b (by simp [h2]), inferInstance⟩
  · have h1' : (v == -1) = false := by simpa using h1
    go_enter Tryz.func217, Tryz.ntmps217; go_wp2; go_ret; exact ⟨ret_b (by simp [h1]), inferInstance⟩
set_option maxHeartbeats 400000 in
theorem cons_sets1 (B : Option Addr) (d : Nat) (ks : List Bool) (v : Int) (st : Bool) (n : Int) (A : Option Addr) (s : List Int) (c : Nat) (w : World) (hk : Kd.bool.C w B ks.length ks) (hr : (Kd.int .i64).C w A s.length s) :
    Calls Tryz.prog 220 #[.agg #[.slice B ks.length d], .agg #[.int .i64 v, .bool st, .int .i64 n, .slice A s.length c]] w fun e w' => e = .returned (.bool (varR ks true v st n s.length || setR v st n s)) ∧ Bel w w' := by
  have HK := Lib.hid hk
  have HR := Lib.hid hr
  clear hk hr
  cases hv : varR ks true v st n s.length with
  | true =>
    have HV := Lib.hid hv
    clear hv
    go_enter Tryz.func220, Tryz.ntmps220
    go_wp2_with (go_at_call 267; refine (cons_variable _ _ _ _ _ _ _ _ _ _ _ (Kd.now HK.out inferInstance)).mono ?_; rintro e w1 ⟨rfl, HB1⟩; rw [HV.out])
    go_ret
    exact ⟨ret_b (by simp), Bel.trans inferInstance HB1⟩
  | false =>
    have HV := Lib.hid hv
    clear hv
    go_enter Tryz.func220, Tryz.ntmps220
    go_wp2_with fail
    refine (cons_variable _ _ _ _ _ _ _ _ _ _ _ (Kd.now HK.out inferInstance)).mono ?_
    rintro e w1 ⟨rfl, HB1⟩
    rw [HV.out]
    have c0 := Bel.box (Bel.trans inferInstance HB1 : Bel (w.alloc (.cells #[.slice B ks.length d] 167)) w1) rfl 0 rfl
    have d0 := Bel.box (g := w.heap.size + 1) HB1 (by simp) 0 rfl
    have d1 := Bel.box (g := w.heap.size + 1) HB1 (by simp) 1 rfl
    have d2 := Bel.box (g := w.heap.size + 1) HB1 (by simp) 2 rfl
    have d3 := Bel.box (g := w.heap.size + 1) HB1 (by simp) 3 rfl
    have HB0 := Lib.hid (Bel.trans (inferInstance : Bel w _) HB1)
    go_wp2_with (go_at_call 217; refine (cons_set _ _ _ _ _ _ _ _ (Kd.now HR.out HB0.out)).mono ?_; rintro e w2 ⟨rfl, HB2⟩)
    go_ret
    exact ⟨ret_b (by simp), (Bel.trans inferInstance HB1).trans HB2⟩
def byF (c : Int) : Nat := if c = 105 then 215 else if c = 98 then 216 else if c = 115 then 217 else if c = 73 then 218 else if c = 66 then 219 else 220
theorem byF_call (c : Int) (args : Array Value) (w : World) : (callFunc (byF c) args).run Tryz.prog w = .ok (.enter (byF c) args) w := by
  unfold byF
  split; · exact Tryz.call215 _ _
  split; · exact Tryz.call216 _ _
  split; · exact Tryz.call217 _ _
  split; · exact Tryz.call218 _ _
  split; · exact Tryz.call219 _ _
  exact Tryz.call220 _ _
theorem cons_by (sl : Value) (c : Int) (w : World) :
    Calls Tryz.prog 153 #[.agg #[sl], .int .u8 c] w fun e w' => e = .returned (.func (.func (byF c)) #[.agg #[sl]] #[]) ∧ Bel w w' := by
  have hmf : ∀ (fn : Fn) (first cap : Array Value) (w : World), (Instr.makeFunc fn first cap).run Tryz.prog w = .ok (.func fn first cap) w := fun _ _ _ _ => rfl
  unfold byF
  by_cases h1 : c = 105
  · subst h1; go_enter Tryz.func153, Tryz.ntmps153; go_wp2; go_ret; exact ⟨rfl, inferInstance⟩
  rw [if_neg h1]
  by_cases h2 : c = 98
  · subst h2; go_enter Tryz.func153, Tryz.ntmps153; go_wp2; go_ret; exact ⟨rfl, inferInstance⟩
  rw [if_neg h2]
  by_cases h3 : c = 115
  · subst h3; go_enter Tryz.func153, Tryz.ntmps153; go_wp2; go_ret; exact ⟨rfl, inferInstance⟩
  rw [if_neg h3]
  by_cases h4 : c = 73
  · subst h4; go_enter Tryz.func153, Tryz.ntmps153; go_wp2; go_ret; exact ⟨rfl, inferInstance⟩
  rw [if_neg h4]
  by_cases h5 : c = 66
  · subst h5; go_enter Tryz.func153, Tryz.ntmps153; go_wp2; go_ret; exact ⟨rfl, inferInstance⟩
  rw [if_neg h5]
  have k1 : (c == 105) = false := by simpa using h1
  have k2 : (c == 98) = false := by simpa using h2
  have k3 : (c == 115) = false := by simpa using h3
  have k4 : (c == 73) = false := by simpa using h4
  have k5 : (c == 66) = false := by simpa using h5
  go_enter Tryz.func153, Tryz.ntmps153; go_wp2; go_ret; exact ⟨rfl, inferInstance⟩
/-- What is asked of a term by a letter. -/
def asksB (c : Int) (ks : List Bool) (t : Term) : Bool :=
  if c = 105 then numR t.var t.c.set t.c.n t.c.s.length (-1000000000) 1000000000
  else if c = 98 then numR t.var t.c.set t.c.n t.c.s.length 0 1
  else if c = 115 then setR t.var t.c.set t.c.n t.c.s
  else if c = 73 then (varR ks false t.var t.c.set t.c.n t.c.s.length || numR t.var t.c.set t.c.n t.c.s.length (-1000000) 1000000)
  else if c = 66 then (varR ks false t.var t.c.set t.c.n t.c.s.length || numR t.var t.c.set t.c.n t.c.s.length 0 1)
  else (varR ks true t.var t.c.set t.c.n t.c.s.length || setR t.var t.c.set t.c.n t.c.s)
theorem cons_asks (l : Int) (B : Option Addr) (d : Nat) (ks : List Bool) (t : Term) (A : Option Addr) (c : Nat) (w : World) (hk : Kd.bool.C w B ks.length ks) (hr : (Kd.int .i64).C w A t.c.s.length t.c.s) :
    Calls Tryz.prog (byF l) #[.agg #[.slice B ks.length d], .agg #[.int .i64 t.var, .bool t.c.set, .int .i64 t.c.n, .slice A t.c.s.length c]] w fun e w' => e = .returned (.bool (asksB l ks t)) ∧ Bel w w' := by
  unfold byF asksB
  split; · exact cons_coef _ _ _ _ _ _ _ _
  split; · exact cons_truth _ _ _ _ _ _ _ _
  split; · exact cons_set _ _ _ _ _ _ _ _ hr
  split; · exact cons_whole _ _ _ _ _ _ _ _ _ _ hk
  split; · exact cons_truths _ _ _ _ _ _ _ _ _ _ hk
  exact cons_sets1 _ _ _ _ _ _ _ _ _ _ hk hr
end Go.Proofs.YtkdedpofghlmoaaGreatDoor
