/- The walks of dom.Less. No statement is proved here. -/
import Derived.Test.YtkdedpofghlmoaaGreatDoorD5
set_option linter.unusedVariables false
set_option linter.unusedSimpArgs false
namespace Go.Proofs.YtkdedpofghlmoaaGreatDoor
open Go.RowKit Go.Proofs.YtkdedpofghlmoaaGreatDoorW.PrintWords
/-- What dom.Less hands back: the ranges and OK, or none and ErrFull. -/
def RetLess (t u : List Rng) (w : World) (e : Ending) (w' : World) : Prop :=
  if (bothL t u).length ≤ 4096 then ∃ A c, e = .returned (.tuple #[.slice A (bothL t u).length c, .int .i64 0]) ∧ (bothL t u).length ≤ c ∧ kRng.C w' A (bothL t u).length (bothL t u) ∧ Bel w w'
  else e = .returned (.tuple #[.slice none 0 0, .int .i64 4]) ∧ Bel w w'
set_option maxRecDepth 100000 in
set_option maxHeartbeats 2000000 in
theorem dom_Less (A B : Option Addr) (c d : Nat) (l m : List Rng) (w : World) (hc : l.length ≤ c) (hd : m.length ≤ d) (hr : kRng.C w A l.length l) (hs : kRng.C w B m.length m) :
    Calls Tryz.prog 261 #[.slice A l.length c, .slice B m.length d] w (RetLess (takenL l) (restL (takenL m)) w) := by
  have HR := Lib.hid hr
  have HS := Lib.hid hs
  clear hr hs
  have hlen := takenL_len l
  have hlenm := takenL_len m
  have HIN := Lib.hid (takenL_in m)
  have hlen2 : (restL (takenL m)).length ≤ 4097 := by
    have := restF_len (takenL m ++ [(⟨1000001, 1000001⟩ : Rng)]) (-1000000)
    unfold restL
    simp at this
    omega
  generalize hu : restL (takenL m) = u at *
  have HU := Lib.hid hu
  clear hu
  generalize ht : takenL l = t at *
  have HT := Lib.hid ht
  clear ht
  go_enter Tryz.func261, Tryz.ntmps261
  go_wp2_with fail
  refine (dom_takenT _ _ _ _ hc HR.out HT.out).mono ?_; rintro e w1 ⟨A1, c1, rfl, hl1, hr1, HB1⟩; have HR1 := Lib.hid hr1; clear hr1
  go_wp2_with fail
  refine (dom_taken _ _ _ _ hd (Kd.now HS.out HB1)).mono ?_; rintro e w2 ⟨A2, c2, rfl, hl2, hr2, HB2⟩; have HR2 := Lib.hid hr2; clear hr2
  go_wp2_with fail
  refine (dom_rest _ _ _ _ HR2.out hlenm HIN.out).mono ?_; rintro e w0 ⟨v3, rfl, HO3⟩
  rw [HU.out] at HO3
  obtain ⟨A3, c3, rfl, hl3, hr3⟩ := HO3.reads
  have HR2 := Lib.hid hr3
  clear hr3
  have HR1 := Lib.hid (Kd.now (Kd.now HR1.out HB2) HO3.bel)
  have HB0 := (HB1.trans HB2).trans HO3.bel
  go_wp2_with fail
  go_loopw [7, 8, 9] (fun v i j wr => ∃ (k h : Nat) (out : List Rng), k ≤ t.length ∧ h ≤ u.length ∧ i = .int .i64 k ∧ j = .int .i64 h ∧ out.length ≤ k + h ∧ AccR w0 wr v out ∧ Hid (out ++ bothL (t.drop k) (u.drop h) = bothL t u)) (fun _ i j _ => t.length + u.length - (intOf i).toNat - (intOf j).toNat)
  case atStart => exact ⟨0, 0, [], by omega, by omega, rfl, rfl, by simp, inferInstance, Lib.hid (by simp)⟩
  case round =>
    obtain ⟨k, h, out, hk, hh, rfl, rfl, ho, HO, HX⟩ := hrel
    by_cases hlt : k < t.length
    · by_cases hlt2 : h < u.length
      · obtain ⟨r, hr⟩ : ∃ r, t[k]? = some r := ⟨t[k], List.getElem?_eq_getElem hlt⟩
        obtain ⟨s, hs⟩ : ∃ r, u[h]? = some r := ⟨u[h], List.getElem?_eq_getElem hlt2⟩
        obtain ⟨ad, rfl, c0, c1⟩ := Rng.nth HR1.out hr
        obtain ⟨bd, rfl, d0, d1⟩ := Rng.nth HR2.out hs
        have HX' := HX.out
        have HDr := Lib.hid (drop_at hr)
        have HDs := Lib.hid (drop_at hs)
        rw [drop_at hr, drop_at hs, bothL] at HX'
        clear hr hs HX
        have C1 := Lib.hid c1
        have D1 := Lib.hid d1
        replace c0 := HO.cell c0
        replace c1 := HO.cell c1
        replace d0 := HO.cell d0
        replace d1 := HO.cell d1
        replace HX' := Lib.hid HX'
        go_upto_region 5 with fail
        go_cut [10] (fun s8 wx => ∃ g, s8 = .pointer (some ⟨g, 0, none⟩) ∧ wx.cell? ⟨g, 0, none⟩ = some (.int .i64 (mxi r.lo s.lo)) ∧ wx.cell? ⟨g, 1, none⟩ = some (.int .i64 (mni r.hi s.hi)) ∧ Bel wr wx)
        case first =>
          go_region_held3 (fun w' => w'.cell? (ad.add (k * 2)) = some (.int .i64 r.lo) ∧ w'.cell? ⟨(ad.add (k * 2)).block, (ad.add (k * 2)).off + 1, none⟩ = some (.int .i64 r.hi) ∧ w'.cell? (bd.add (h * 2)) = some (.int .i64 s.lo) ∧ w'.cell? ⟨(bd.add (h * 2)).block, (bd.add (h * 2)).off + 1, none⟩ = some (.int .i64 s.hi)) (go_keep) (fail)
          all_goals (go_wp2_with fail; go_meet; exact ⟨_, rfl, by simp [World.cell?_alloc_new], by simp [World.cell?_alloc_new], inferInstance⟩)
        case rest =>
          obtain ⟨g, rfl, g0, g1, hb⟩ := hcut
          replace HO := HO.later hb
          clear c0 d0 c1 d1
          have c1 := HO.cell C1.out
          have d1 := HO.cell D1.out
          by_cases hle : mxi r.lo s.lo ≤ mni r.hi s.hi
          all_goals
            by_cases hhi : r.hi < s.hi
            all_goals
              have HX'' := HX'.out
              first | rw [if_pos hle] at HX'' | rw [if_neg hle] at HX''
              first | rw [if_pos hhi] at HX'' | rw [if_neg hhi] at HX''
              replace HX'' := Lib.hid HX''
              clear HX'
              go_wp2_with (at_builtin; refine AccR.app HO rfl rfl rfl rfl (by simp) inferInstance (by omega) ?_; intro v1 w1 HO1 hk1; clear hk1; have c2 := HO1.cell C1.out; have d2 := HO1.cell D1.out)
              go_quiet (fail)
              go_wp2
              go_roundw
              case rel => first
                | exact ⟨k + 1, h, out ++ [_], by omega, by omega, by go_num, rfl, by simp; omega, inferInstance, Lib.hid (by have := HX''.out; rw [HDs.out]; simpa using this)⟩
                | exact ⟨k, h + 1, out ++ [_], by omega, by omega, rfl, by go_num, by simp; omega, inferInstance, Lib.hid (by have := HX''.out; rw [HDr.out]; simpa using this)⟩
                | exact ⟨k + 1, h, out, by omega, by omega, by go_num, rfl, by omega, inferInstance, Lib.hid (by have := HX''.out; rw [HDs.out]; simpa using this)⟩
                | exact ⟨k, h + 1, out, by omega, by omega, rfl, by go_num, by omega, inferInstance, Lib.hid (by have := HX''.out; rw [HDr.out]; simpa using this)⟩
              case measure => simp [intOf]; omega
      · have : h = u.length := by omega
        subst this
        have hx := HX.out
        rw [List.drop_length] at hx
        have hx2 : out = bothL t u := by
          rw [← hx]
          cases t.drop k <;> simp [bothL]
        subst hx2
        clear hx HX ho
        obtain ⟨A2, c2, rfl, h2, h3⟩ := Acc.reads HO
        have H3 := Lib.hid h3
        have HB := HB0.trans HO.bel
        clear HO h3
        by_cases h4 : (bothL t u).length ≤ 4096
        · go_wp2
          go_ret2
          exact (by unfold RetLess; rw [if_pos h4]; exact ⟨A2, c2, rfl, h2, H3.out, HB⟩)
        · go_wp2
          go_ret2
          exact (by unfold RetLess; rw [if_neg h4]; exact ⟨rfl, HB⟩)
    · have : k = t.length := by omega
      subst this
      have hx := HX.out
      rw [List.drop_length, bothL, List.append_nil] at hx
      subst hx
      clear HX ho
      obtain ⟨A2, c2, rfl, h2, h3⟩ := Acc.reads HO
      have H3 := Lib.hid h3
      have HB := HB0.trans HO.bel
      clear HO h3
      by_cases h4 : (bothL t u).length ≤ 4096
      · go_wp2
        go_ret2
        exact (by unfold RetLess; rw [if_pos h4]; exact ⟨A2, c2, rfl, h2, H3.out, HB⟩)
      · go_wp2
        go_ret2
        exact (by unfold RetLess; rw [if_neg h4]; exact ⟨rfl, HB⟩)
end Go.Proofs.YtkdedpofghlmoaaGreatDoor
