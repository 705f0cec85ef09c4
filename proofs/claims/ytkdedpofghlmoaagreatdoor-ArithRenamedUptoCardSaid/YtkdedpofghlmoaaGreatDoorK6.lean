/- The walk of cons.Right at names of which nothing more is asked. No statement is proved here. -/
import Derived.Test.YtkdedpofghlmoaaGreatDoorT1
import Derived.Test.YtkdedpofghlmoaaGreatDoorK4
import Derived.IntWalk
set_option linter.unusedVariables false
set_option linter.unusedSimpArgs false
namespace Go.Proofs.YtkdedpofghlmoaaGreatDoor
open Go.RowKit Go.Proofs.YtkdedpofghlmoaaGreatDoorW.PrintWords
theorem cons_has (s p : ByteArray) (g : Nat) (w : World) (h0 : w.cell? ⟨g, 0, none⟩ = some (.string s)) :
    Calls Tryz.prog 221 #[.string p, .pointer (some ⟨g, 0, none⟩)] w fun e w' => e = .returned (.bool (preB s p)) ∧ w' = w := by
  go_enter Tryz.func221, Tryz.ntmps221
  go_wp2_with (go_at_call 137; refine (strings_HasPrefix _ _ _).mono ?_; rintro e w1 ⟨rfl, rfl⟩)
  go_ret
  exact ⟨rfl, rfl⟩
theorem cons_has_e {s p : ByteArray} {b : Bool} (hb : Hid (preB s p = b)) (g : Nat) (w : World) (h0 : w.cell? ⟨g, 0, none⟩ = some (.string s)) :
    Calls Tryz.prog 221 #[.string p, .pointer (some ⟨g, 0, none⟩)] w fun e w' => e = .returned (.bool b) ∧ w' = w := hb.out ▸ cons_has s p g w h0
/-- Nothing more is asked of a constraint of that name. -/
def plainB (n : ByteArray) : Bool :=
  !(preB n ⟨#[105, 110, 116, 95, 108, 105, 110]⟩) && !(preB n ⟨#[98, 111, 111, 108, 95, 108, 105, 110]⟩) && !(preB n ⟨#[102, 122, 110, 95, 103, 108, 111, 98, 97, 108]⟩) && !(preB n ⟨#[102, 122, 110, 95, 98, 105, 110]⟩) &&
  !(n.toList == [102, 122, 110, 95, 115, 111, 114, 116]) && !(n.toList == [102, 122, 110, 95, 105, 110, 118, 101, 114, 115, 101]) && !(n.toList == [102, 122, 110, 95, 100, 105, 115, 106, 117, 110, 99, 116, 105, 118, 101]) &&
  !(n.toList == [102, 122, 110, 95, 99, 117, 109, 117, 108, 97, 116, 105, 118, 101]) && !(n.toList == [102, 122, 110, 95, 107, 110, 97, 112, 115, 97, 99, 107]) && !(n.toList == [102, 122, 110, 95, 100, 105, 102, 102, 110]) &&
  !(n.toList == [102, 122, 110, 95, 109, 97, 120, 105, 109, 117, 109, 95, 105, 110, 116]) && !(n.toList == [102, 122, 110, 95, 109, 105, 110, 105, 109, 117, 109, 95, 105, 110, 116]) && !(n.toList == [102, 122, 110, 95, 116, 97, 98, 108, 101, 95, 105, 110, 116]) &&
  !(n.toList == [102, 122, 110, 95, 114, 101, 103, 117, 108, 97, 114])
set_option maxRecDepth 100000 in
set_option maxHeartbeats 2000000 in
theorem cons_rules (n : ByteArray) (A : Option Addr) (m c : Nat) (w : World) (h : plainB n = true) :
    Calls Tryz.prog 154 #[.agg #[.string n, .slice A m c]] w fun e w' => e = .returned (.bool true) ∧ Bel w w' := by
  have hmf : ∀ (fn : Fn) (first cap : Array Value) (w : World), (Instr.makeFunc fn first cap).run Tryz.prog w = .ok (.func fn first cap) w := fun _ _ _ _ => rfl
  simp only [plainB, Bool.and_eq_true, Bool.not_eq_true'] at h
  obtain ⟨⟨⟨⟨⟨⟨⟨⟨⟨⟨⟨⟨⟨h1, h2⟩, h3⟩, h4⟩, e1⟩, e2⟩, e3⟩, e4⟩, e5⟩, e6⟩, e7⟩, e8⟩, e9⟩, e10⟩ := h
  have H1 := Lib.hid h1
  have H2 := Lib.hid h2
  have H3 := Lib.hid h3
  have H4 := Lib.hid h4
  clear h1 h2 h3 h4
  go_enter Tryz.func154, Tryz.ntmps154
  go_wp2_with (go_at_call 221; refine (cons_has _ _ _ _ (blk_cell0 (heap_alloc_new _ _) 0)).mono ?_; rintro e w1 ⟨rfl, rfl⟩; first | rw [H1.out] | rw [H2.out] | rw [H3.out] | rw [H4.out])
  go_ret
  exact ⟨rfl, inferInstance⟩
end Go.Proofs.YtkdedpofghlmoaaGreatDoor
set_option linter.unusedVariables false
set_option linter.unusedSimpArgs false
namespace Go.Proofs.YtkdedpofghlmoaaGreatDoor
open Go.RowKit Go.Proofs.YtkdedpofghlmoaaGreatDoorW.PrintWords
def firstC (p : ByteArray) : Int := if h : 0 < p.size then (p[0]'h).toNat else 0
def lastC (p : ByteArray) : Int := if h : p.size - 1 < p.size then (p[p.size - 1]'h).toNat else 0
theorem firstC_index (p : ByteArray) (h : 1 ≤ p.size) (w : World) : (Instr.index 9 (.string p) (.int .i64 0)).run Tryz.prog w = .ok (.int .u8 (firstC p)) w := by
  rw [run_index_string w 9 p .i64 0 Tryz.underlying9, dif_pos (by omega), firstC, dif_pos (by omega)]
  rfl
theorem lastC_index (p : ByteArray) (h : 1 ≤ p.size) (w : World) : (Instr.index 9 (.string p) (.int .i64 ((p.size : Int) - 1))).run Tryz.prog w = .ok (.int .u8 (lastC p)) w := by
  rw [run_index_string w 9 p .i64 _ Tryz.underlying9, dif_pos (by omega), lastC, dif_pos (by omega)]
  congr 3
  congr 1
  congr 1
  omega
def headR : List Arg → List ByteArray → Bool
  | a :: r, p :: ps => if a.array != (firstC p == 97) then false else if !a.array && !(a.l.length == 1) then false else headR r ps
  | _, _ => true
def longR : List Arg → Bool
  | [] => false
  | a :: r => decide ((1000 : Int) < a.l.length) || longR r
def askR (ks : List Bool) : List Arg → List ByteArray → Bool
  | a :: r, p :: ps => if a.l.all (asksB (lastC p) ks) then askR ks r ps else false
  | _, _ => true
def rightE (name : ByteArray) (args : List Arg) (ks : List Bool) : Int :=
  if (partsL (findR name).form).length ≠ args.length then 50 else if headR args (partsL (findR name).form) = false then 50 else if longR args then 3 else if askR ks args (partsL (findR name).form) = false then 50 else 0
set_option maxRecDepth 100000 in
set_option maxHeartbeats 4000000 in
theorem cons_Right (name : ByteArray) (A : Option Addr) (c : Nat) (args : List Arg) (B : Option Addr) (d : Nat) (ks : List Bool) (w : World) (hm : ML w) (ha : kArg.C w A args.length args) (hk : Kd.bool.C w B ks.length ks)
    (hpl : plainB name = true) (hf : (findR name).form.size < 4294967281) (hne : (findR name).form.toList.isEmpty = false) (hp : ∀ p ∈ partsL (findR name).form, 1 ≤ p.size ∧ p.size ≤ 1000) :
    Calls Tryz.prog 87 #[.agg #[.string name, .slice A args.length c], .slice B ks.length d] w fun e w' => e = .returned (.int .i64 (rightE name args ks)) ∧ Bel w w' := by
  obtain ⟨r, hr⟩ : ∃ r, rightE name args ks = r := ⟨_, rfl⟩
  rw [hr]
  unfold rightE at hr
  have HML := Lib.hid hm
  have HA := Lib.hid ha
  have HK := Lib.hid hk
  have HPL := Lib.hid hpl
  have HP := Lib.hid hp
  obtain ⟨f, hfe⟩ : ∃ f, (findR name).form = f := ⟨_, rfl⟩
  have HF := Lib.hid hfe
  rw [hfe] at hf hne HP hr
  have hlen := partsL_len f
  have hcb := Lib.countB_le ⟨#[44]⟩ (by decide) f.size f (Nat.le_refl _)
  have HR := Lib.hid hr
  clear hm ha hk hpl hp hfe hr
  have hal := C_len HA.out
  go_enter Tryz.func87, Tryz.ntmps87
  go_wp2_with fail
  refine (cons_Form name _).mono ?_
  rintro e w1 ⟨rfl, HB1⟩
  rw [HF.out]
  have b0 : w1.cell? ⟨w.heap.size, 0, none⟩ = some (.string name) := Bel.box HB1 rfl 0 rfl
  have b1 : w1.cell? ⟨w.heap.size, 1, none⟩ = some (.slice A args.length c) := Bel.box HB1 rfl 1 rfl
  have HB01 := Bel.trans (inferInstance : Bel w _) HB1
  clear HB1
  go_wp2_with fail
  refine (split_c f _ (HML.out.bel HB01) hf).mono ?_
  rintro e w2 ⟨A1, c1, rfl, hl1, hr1, HB2⟩
  have HR1 := Lib.hid hr1
  have HB0 := HB01.trans HB2
  replace b0 := HB2.cell b0
  replace b1 := HB2.cell b1
  clear hr1 HB01 HB2
  generalize partsL f = ps at *
  clear hlen hcb
  by_cases hle : ps.length = args.length
  · have hle' : ((ps.length : Int) != (args.length : Int)) = false := by simp [hle]
    have HE := Lib.hid hle
    have hr := HR.out
    rw [if_neg (by simp [hle])] at hr
    replace HR := Lib.hid hr
    clear hr hle
    go_wp2_with fail
    go_loopw [7, 31] (fun lg i wr => ∃ (k : Nat) (b : Bool), k ≤ args.length ∧ i = .int .i64 k ∧ lg = .bool b ∧ Hid (longR args = (b || longR (args.drop k))) ∧ Hid (headR (args.drop k) (ps.drop k) = headR args ps) ∧ Bel w2 wr) (fun _ i _ => args.length - (intOf i).toNat)
    case atStart => exact ⟨0, false, by omega, rfl, rfl, Lib.hid (by simp), Lib.hid (by simp), inferInstance⟩
    case round =>
      obtain ⟨k, b, hk, rfl, rfl, HLG, HX, HB⟩ := hrel
      by_cases hlt : k < args.length
      · obtain ⟨a, hra⟩ : ∃ r, args[k]? = some r := ⟨args[k], List.getElem?_eq_getElem hlt⟩
        obtain ⟨p, hrp⟩ : ∃ r, ps[k]? = some r := ⟨ps[k]'(by have := HE.out; omega), List.getElem?_eq_getElem _⟩
        obtain ⟨ad, A2, c2, rfl, e0, e1, hl2, hC2⟩ := Arg.nth HA.out hra
        obtain ⟨pd, rfl, p0⟩ := Str.nth HR1.out hrp
        have hps := HP.out p (List.mem_of_getElem? hrp)
        have hix := firstC_index p hps.1
        have HX' := HX.out
        have HLG' := HLG.out
        have hkp : (k : Int) < (ps.length : Int) := by have := HE.out; omega
        rw [drop_at hra, drop_at hrp, headR] at HX'
        rw [drop_at hra, longR] at HLG'
        replace e0 := HB.cell (HB0.cell e0)
        replace e1 := HB.cell (HB0.cell e1)
        replace p0 := HB.cell p0
        replace p0 : ∀ (W : World) [Bel wr W], W.cell? (pd.add k) = some (.string p) := fun W h => h.cell p0
        obtain ⟨arr, l⟩ := a
        obtain ⟨x, hx⟩ : ∃ x, firstC p = x := ⟨_, rfl⟩
        rw [hx] at hix HX'
        clear hx hra hrp hC2 HX HLG
        simp only [] at hl2 e0 e1 HX' HLG'
        cases hx97 : (x == 97) with
        | true =>
          cases arr with
          | true =>
            rw [hx97, if_neg (by simp), if_neg (by simp)] at HX'
            replace HX' := Lib.hid HX'
            cases b with
            | true =>
              go_wp2
              go_quiet (fail)
              go_wp2
              go_roundw
              case rel => exact ⟨k + 1, true, by omega, by go_num, rfl, Lib.hid (by rw [HLG']; simp), HX', inferInstance⟩
              case measure => simp [intOf]; omega
            | false =>
              replace HLG' := Lib.hid HLG'
              go_wp2
              go_quiet (fail)
              go_wp2
              go_roundw
              case rel => exact ⟨k + 1, decide ((1000 : Int) < l.length), by omega, by go_num, rfl, Lib.hid (by rw [HLG'.out]; simp), HX', inferInstance⟩
              case measure => simp [intOf]; omega
          | false =>
            rw [hx97, if_pos (by simp)] at HX'
            replace HX' := Lib.hid HX'
            have hr := HR.out
            rw [if_pos HX'.out.symm] at hr
            subst hr
            clear HR HLG'
            go_wp2
            go_quiet (fail)
            go_wp2
            go_ret
            exact ⟨rfl, HB0.trans (HB.trans inferInstance)⟩
        | false =>
          cases arr with
          | true =>
            rw [hx97, if_pos (by simp)] at HX'
            replace HX' := Lib.hid HX'
            have hr := HR.out
            rw [if_pos HX'.out.symm] at hr
            subst hr
            clear HR HLG'
            go_wp2
            go_quiet (fail)
            go_wp2
            go_ret
            exact ⟨rfl, HB0.trans (HB.trans inferInstance)⟩
          | false =>
            rw [hx97, if_neg (by simp)] at HX'
            by_cases h1 : l.length = 1
            · have h1' : ((l.length : Int) != 1) = false := by simp [h1]
              rw [if_neg (by simp [h1])] at HX'
              replace HX' := Lib.hid HX'
              have H1 := Lib.hid h1
              clear h1
              cases b with
              | true =>
                go_wp2
                go_quiet (fail)
                go_wp2
                go_roundw
                case rel => exact ⟨k + 1, true, by omega, by go_num, rfl, Lib.hid (by rw [HLG']; simp), HX', inferInstance⟩
                case measure => simp [intOf]; omega
              | false =>
                replace HLG' := Lib.hid HLG'
                go_wp2
                go_quiet (fail)
                go_wp2
                go_roundw
                case rel => exact ⟨k + 1, decide ((1000 : Int) < l.length), by omega, by go_num, rfl, Lib.hid (by rw [HLG'.out]; simp), HX', inferInstance⟩
                case measure => simp [intOf]; omega
            · have h1' : ((l.length : Int) != 1) = true := by simp; omega
              rw [if_pos (by simp [h1])] at HX'
              replace HX' := Lib.hid HX'
              clear h1
              have hr := HR.out
              rw [if_pos HX'.out.symm] at hr
              subst hr
              clear HR HLG'
              go_wp2
              go_quiet (fail)
              go_wp2
              go_ret
              exact ⟨rfl, HB0.trans (HB.trans inferInstance)⟩
      · obtain rfl : k = args.length := by omega
        have hx := HX.out
        have hlg := HLG.out
        rw [List.drop_length, headR.eq_def] at hx
        rw [List.drop_length, longR, Bool.or_false] at hlg
        have hr := HR.out
        rw [← hx, hlg, if_neg (by simp)] at hr
        cases b with
        | true =>
          rw [if_pos rfl] at hr
          subst hr
          clear hx hlg HX HLG HR
          go_wp2
          go_ret
          exact ⟨rfl, HB0.trans HB⟩
        | false =>
          rw [if_neg (by simp)] at hr
          replace HR := Lib.hid hr
          clear hx hlg HX HLG hr
          have b1w := Lib.hid b1
          replace b1 := HB.cell b1
          go_wp2_with fail
          go_loopw [68] (fun i wx => ∃ (k : Nat), k ≤ args.length ∧ i = .int .i64 k ∧ Hid (askR ks (args.drop k) (ps.drop k) = askR ks args ps) ∧ Bel w2 wx) (fun i _ => args.length - (intOf i).toNat)
          case atStart => exact ⟨0, by omega, rfl, Lib.hid (by simp), HB⟩
          case round =>
            obtain ⟨k, hk, rfl, HX, HB3⟩ := hrel
            by_cases hlt : k < args.length
            · obtain ⟨a, hra⟩ : ∃ r, args[k]? = some r := ⟨args[k], List.getElem?_eq_getElem hlt⟩
              obtain ⟨p, hrp⟩ : ∃ r, ps[k]? = some r := ⟨ps[k]'(by have := HE.out; omega), List.getElem?_eq_getElem _⟩
              obtain ⟨ad, A2, c2, rfl, e0, e1, hl2, hC2⟩ := Arg.nth HA.out hra
              obtain ⟨pd, rfl, p0⟩ := Str.nth HR1.out hrp
              have HC2 := Lib.hid hC2
              have hll := C_len hC2
              have hps := HP.out p (List.mem_of_getElem? hrp)
              have hix := lastC_index p hps.1
              have hp1 : (1 : Int) ≤ (p.size : Int) := by omega
              have hp2 : (p.size : Int) ≤ 1000 := by omega
              have hp3 : (0 : Int) ≤ (p.size : Int) - 1 := by omega
              have hp4 : (p.size : Int) - 1 < (p.size : Int) := by omega
              have hpw : IntKind.i64.wrap ((p.size : Int) - 1) = (p.size : Int) - 1 := IntWalk.i64_in _ (by omega)
              have HX' := HX.out
              have hkp : (k : Int) < (ps.length : Int) := by have := HE.out; omega
              rw [drop_at hra, drop_at hrp, askR] at HX'
              replace e0 := HB3.cell (HB0.cell e0)
              replace e1 := HB3.cell (HB0.cell e1)
              replace p0 := HB3.cell p0
              obtain ⟨x, hx⟩ : ∃ x, lastC p = x := ⟨_, rfl⟩
              rw [hx] at hix HX'
              clear hx hra hrp hC2 HX
              obtain ⟨arr, l⟩ := a
              simp only [] at hl2 e0 e1 HX' HC2 hll
              replace HX' := Lib.hid HX'
              go_upto_region 20 with fail
              obtain ⟨wz, hwz⟩ : ∃ wz, wr.alloc (.cells #[.bool arr, .slice A2 l.length c2] 62) = wz := ⟨_, rfl⟩
              have z1 : Bel wr wz := hwz ▸ inferInstance
              have f1 : wz.cell? ⟨wr.heap.size, 1, none⟩ = some (.slice A2 l.length c2) := Bel.box (W := wz) (w := wr) (cs := #[.bool arr, .slice A2 l.length c2]) (t := 62) (hwz ▸ inferInstance) rfl 1 rfl
              rw [hwz]
              replace p0 := z1.cell p0
              replace HB3 := HB3.trans z1
              clear e0 e1 hwz
              go_cut [12] (fun v wx => v = .func (.func (byF x)) #[.agg #[.slice B ks.length d]] #[] ∧ Bel wz wx)
              case first =>
                go_region_held3 (fun w' => w'.cell? (pd.add k) = some (.string p)) (first | go_keep | exact HB1.cell p0) (first | (go_at_call 153; refine (cons_by _ _ _).mono ?_; rintro e w1 ⟨rfl, HB1⟩))
                all_goals (go_wp2_with fail; go_meet; refine ⟨rfl, ?_⟩; first | assumption | (trace_state; exact Bel.trans inferInstance (by assumption)))
              case rest =>
                obtain ⟨rfl, hb⟩ := hcut
                have hcall := byF_call x
                have hasks := fun (t : Term) (A : Option Addr) (c : Nat) (w' : World) (h1 : Kd.bool.C w' B ks.length ks) (h2 : (Kd.int .i64).C w' A t.c.s.length t.c.s) => cons_asks x B d ks t A c w' h1 h2
                have HAS := Lib.hid hasks
                clear hasks
                generalize byF x = bf at *
                replace f1 := hb.cell f1
                replace HB3 := HB3.trans hb
                clear p0 hix hp1 hp2 hp3 hp4 hpw
                go_wp2_with fail
                go_loopw [90] (fun i wy => ∃ (j : Nat), j ≤ l.length ∧ i = .int .i64 j ∧ Hid ((l.drop j).all (asksB x ks) = l.all (asksB x ks)) ∧ Bel w2 wy) (fun i _ => l.length - (intOf i).toNat)
                case atStart => exact ⟨0, by omega, rfl, Lib.hid (by simp), HB3⟩
                case round =>
                  obtain ⟨j, hj, rfl, HY, HB4⟩ := hrel
                  by_cases hjl : j < l.length
                  · obtain ⟨t, hrt⟩ : ∃ r, l[j]? = some r := ⟨l[j], List.getElem?_eq_getElem hjl⟩
                    obtain ⟨td, A3, c3, rfl, t0, t1, t2, t3, hl3, hC3⟩ := Term.nth HC2.out hrt
                    have HC3 := Lib.hid hC3
                    have HY' := HY.out
                    rw [drop_at hrt, List.all_cons] at HY'
                    have hBw : Bel w _ := HB0.trans HB4
                    replace t0 := hBw.cell t0
                    replace t1 := hBw.cell t1
                    replace t2 := hBw.cell t2
                    replace t3 := hBw.cell t3
                    clear hrt HY hC3
                    cases hask : asksB x ks t with
                    | true =>
                      rw [hask, Bool.true_and] at HY'
                      replace HY' := Lib.hid HY'
                      have HK1 := Lib.hid hask
                      clear hask
                      go_wp2_with fail
                      refine (HAS.out t _ _ _ (Kd.now HK.out (hBw.trans inferInstance)) (Kd.now HC3.out (hBw.trans inferInstance))).mono ?_
                      rintro e w5 ⟨rfl, HB5⟩
                      rw [HK1.out]
                      go_wp2
                      go_roundw
                      case rel => exact ⟨j + 1, by omega, by go_num, HY', HB4.trans (Bel.trans inferInstance HB5)⟩
                      case measure => simp [intOf]; omega
                    | false =>
                      rw [hask, Bool.false_and] at HY'
                      have hx' := HX'.out
                      rw [← HY', if_neg (by simp)] at hx'
                      have hr := HR.out
                      rw [← hx', if_pos rfl] at hr
                      subst hr
                      have HK1 := Lib.hid hask
                      clear hask HY' hx' HX' HR
                      go_wp2_with fail
                      refine (HAS.out t _ _ _ (Kd.now HK.out (hBw.trans inferInstance)) (Kd.now HC3.out (hBw.trans inferInstance))).mono ?_
                      rintro e w5 ⟨rfl, HB5⟩
                      rw [HK1.out]
                      go_wp2
                      go_ret
                      exact ⟨rfl, HB0.trans (HB4.trans (Bel.trans inferInstance HB5))⟩
                  · obtain rfl : j = l.length := by omega
                    have hy := HY.out
                    rw [List.drop_length, List.all_nil] at hy
                    have hx' := HX'.out
                    rw [← hy, if_pos rfl] at hx'
                    replace HX' := Lib.hid hx'
                    clear hy hx' HY
                    go_wp2
                    go_roundw
                    case rel => exact ⟨k + 1, by omega, by go_num, HX', HB4⟩
                    case measure => simp [intOf]; omega
            · obtain rfl : k = args.length := by omega
              have hx := HX.out
              rw [List.drop_length, askR.eq_def] at hx
              have hr := HR.out
              rw [← hx, if_neg (by simp)] at hr
              subst hr
              have b0' := HB3.cell b0
              have b1' := HB3.cell b1w.out
              clear hx HX HR b0 b1 b1w
              go_wp2_with fail
              refine (cons_rules name _ _ _ _ HPL.out).mono ?_
              rintro e w6 ⟨rfl, HB6⟩
              go_wp2
              go_ret
              exact ⟨rfl, (HB0.trans HB3).trans HB6⟩
  · have hle' : ((ps.length : Int) != (args.length : Int)) = true := by simp; omega
    have hr := HR.out
    rw [if_pos hle] at hr
    subst hr
    clear hle
    go_wp2
    go_ret
    exact ⟨rfl, HB0⟩
end Go.Proofs.YtkdedpofghlmoaaGreatDoor
