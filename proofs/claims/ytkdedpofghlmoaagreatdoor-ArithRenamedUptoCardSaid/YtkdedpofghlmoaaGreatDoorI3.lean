/- The walk of ints.digits and what its closure hands on. No statement is proved here. -/
import Derived.Test.YtkdedpofghlmoaaGreatDoorI2
import Derived.Test.YtkdedpofghlmoaaGreatDoorSH
import Derived.Test.YtkdedpofghlmoaaGreatDoorE2
import Derived.Shelf.Strconv.Itoa0
set_option linter.unusedVariables false
set_option linter.unusedSimpArgs false
namespace Go.Proofs.YtkdedpofghlmoaaGreatDoor
open Go.RowKit Go.Proofs.YtkdedpofghlmoaaGreatDoorW.PrintWords
/-- The lowest k bits of e, the highest of them first. -/
def bitsTo (e : Nat) : Nat → List Bool
  | 0 => []
  | k + 1 => (e / 2 ^ k % 2 == 1) :: bitsTo e k
theorem bits_and1_i64 (a : Nat) (ha : a < 9223372036854775808) : bits .and .i64 (a : Int) 1 = ((a % 2 : Nat) : Int) := by
  have hx : a &&& 1 = a % 2 := Nat.and_one_is_mod a
  have h1 : (BitVec.ofInt 64 (a : Int)).toNat = a := by
    rw [BitVec.ofInt_natCast, BitVec.toNat_ofNat]; exact Nat.mod_eq_of_lt (by omega)
  have h2 : (BitVec.ofInt 64 (1 : Int)).toNat = 1 := by decide
  show IntKind.i64.wrap ((BitVec.ofInt 64 (a : Int) &&& BitVec.ofInt 64 (1 : Int)).toNat : Int) = _
  rw [BitVec.toNat_and, h1, h2, hx, IntKind.wrap_i64]
  omega
theorem bit_eq (e k : Nat) (he : e < 9223372036854775808) : (bits .and .i64 ((e : Int) / 2 ^ k) 1 == 1) = (e / 2 ^ k % 2 == 1) := by
  have h1 : ((e : Int) / 2 ^ k) = ((e / 2 ^ k : Nat) : Int) := by push_cast; rfl
  have h2 : e / 2 ^ k < 9223372036854775808 := Nat.lt_of_le_of_lt (Nat.div_le_self _ _) he
  rw [h1, bits_and1_i64 _ h2]
  rcases Nat.mod_two_eq_zero_or_one (e / 2 ^ k) with h | h <;> rw [h] <;> rfl
theorem bitsTo_len (e : Nat) : ∀ k, (bitsTo e k).length = k
  | 0 => rfl
  | k + 1 => by simp [bitsTo, bitsTo_len e k]
theorem bits_Len64 {x : Int} {k : Nat} (h0 : 0 ≤ x) (h1 : x ≤ 18446744073709551615) (hk : Lib.bitLen x.toNat = k) (w : World) :
    Calls Tryz.prog 282 #[.int .u64 x] w fun e w' => e = .returned (.int .i64 k) ∧ w' = w := by
  subst hk
  exact Any.bits_Len64 lays129 x w h0 h1
theorem ints_digits (v : Int) (w : World) :
    Calls Tryz.prog 258 #[.int .i64 v] w fun e w' => e = .returned (.func (.func 289) #[] #[.pointer (some ⟨w.heap.size, 0, none⟩)]) ∧ w' = w.alloc (.cells #[.int .i64 v] 2) := by
  go_enter Tryz.func258, Tryz.ntmps258
  go_wp2
  go_ret
  exact ⟨rfl, rfl⟩
set_option maxRecDepth 100000 in
set_option maxHeartbeats 2000000 in
theorem digits1 (n : Nat) (hn : 1 ≤ n) (g : Nat) (e : Nat) (w : World) (h0 : 0 < e) (h1 : (e : Int) ≤ 9223372036854775807) (L : Nat) (hL : Lib.bitLen e = L) (hL1 : 1 ≤ L) (hL2 : L ≤ 63)
    (hbox : w.cell? ⟨g, 0, none⟩ = some (.int .i64 e)) (S : Nat → Prop) (hS : S g) (hSl : ∀ k, S k → k < w.heap.size) :
    SeqStopsK Fence.wide n Tryz.prog 289 #[.pointer (some ⟨g, 0, none⟩)] (fun x : Bool => #[Value.bool x]) (KeepE S) (fun ys => ys = bitsTo e L) (fun pre => pre <+: bitsTo e L) L w := by
  intro l J Jx W hW hJa _ hY hJ0
  have HJA := Lib.hid hJa
  have HY := Lib.hid hY
  have hbox' := cell_now hW hbox
  have HL := Lib.hid (show Lib.bitLen ((e : Int)).toNat = L by simpa using hL)
  clear hY hbox hJa hL
  refine callsIn_of_wp Tryz.func289 rfl trivial ?_ rfl
  simp only [Tryz.ntmps289, List.size_toArray, List.length_cons, List.length_nil, Nat.reduceAdd, Nat.reduceSub, Array.replicate_succ, Array.replicate_zero, List.push_toArray, List.append_toArray, List.nil_append, List.cons_append]
  gi_wp2_with (refine ⟨trivial, ?_⟩; gi_at_call 282; refine (callsIn_wide.2 (bits_Len64 (by omega) (by omega) HL.out _)).mono ?_; rintro e' w1 ⟨rfl, rfl⟩)
  have HW := Lib.hid hW
  gi_loopw [3] (fun i wr => ∃ (k : Nat) (pre : List Bool), k ≤ L ∧ i = .int .i64 ((k : Int) - 1) ∧ Hid (J pre wr) ∧ Hid (KeepE S w1 wr) ∧ Hid (pre ++ bitsTo e k = bitsTo e L)) (fun i _ => (intOf i + 1).toNat)
  case atStart => exact ⟨L, [], by omega, rfl, Lib.hid hJ0, Lib.hid (KeepE.refl _ _), Lib.hid (by simp)⟩
  case round =>
    obtain ⟨k, pre, hk, rfl, HJ, HK, HX⟩ := hrel
    cases k with
    | zero =>
      gi_wp2
      go_end0
      exact ⟨⟨_, rfl⟩, .inl ⟨_, rfl, by have := HX.out; rw [show bitsTo e 0 = [] from rfl, List.append_nil] at this; rw [← this]; exact HJ.out⟩⟩
    | succ k =>
      have HX' := HX.out
      rw [show bitsTo e (k + 1) = (e / 2 ^ k % 2 == 1) :: bitsTo e k from rfl, ← bit_eq e k (by omega)] at HX'
      have hpl : pre.length < L := by
        have := congrArg List.length HX'
        rw [List.length_append, List.length_cons, bitsTo_len, bitsTo_len] at this
        omega
      replace HX' := Lib.hid HX'
      obtain ⟨fn, tmps, assign, body, hy, hR⟩ := HY.out pre (bits .and .i64 ((e : Int) / 2 ^ k) 1 == 1) wr HJ.out hpl
      have c0 := HK.out.cell hS hbox'
      clear HX
      gi_wp2
      refine hR.mono ?_
      rintro e' W3 (⟨rfl, hJ3, hk3⟩ | ⟨rfl, hJx3⟩)
      · have HJ3 := Lib.hid hJ3
        have HK3 := Lib.hid (HK.out.trans hk3)
        clear hJ3 hk3 HJ HK hy
        gi_wp2
        go_roundw
        case rel => exact ⟨k, pre ++ [_], by omega, by go_num, HJ3, HK3, Lib.hid (by rw [List.append_assoc]; exact HX'.out)⟩
        case measure => simp [intOf]
      · have HJX := Lib.hid hJx3
        clear hJx3 HJ HK hy
        gi_wp2
        refine bodyPost_ret (results_none rfl _ _ _) rfl ?_
        exact ⟨⟨_, rfl⟩, .inr ⟨_, ⟨_, by have := HX'.out; rw [← this, List.append_assoc]; rfl⟩, HJX.out⟩⟩
end Go.Proofs.YtkdedpofghlmoaaGreatDoor
