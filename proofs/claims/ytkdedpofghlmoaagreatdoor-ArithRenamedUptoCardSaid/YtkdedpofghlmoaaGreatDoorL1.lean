/- The walks of the arithmetic law's own helpers: term, holds; arith.Holds. No statement is proved here. -/
import Derived.Test.YtkdedpofghlmoaaGreatDoorT4
import Derived.Test.YtkdedpofghlmoaaGreatDoorA1
set_option linter.unusedVariables false
set_option linter.unusedSimpArgs false
namespace Go.Proofs.YtkdedpofghlmoaaGreatDoor
open Go.RowKit Go.Proofs.YtkdedpofghlmoaaGreatDoorW.PrintWords
/-- A row that is read, out of its cells. -/
theorem C_of_at {α : Type} {d : Kd α} {W : World} {a : Addr} {xs : List α} (hl : xs.length ≤ 9223372036854775807) (h : ∀ j x, xs[j]? = some x → ∃ c, d.K W x c ∧ ∀ i u, c[i]? = some u → W.cell? (a.add (j * d.sz + i)) = some u) : d.C W (some a) xs.length xs :=
  ⟨rfl, hl, fun _ => ⟨a, rfl, fun j p hp => by
    obtain ⟨c, h1, h2⟩ := h j p hp
    exact ⟨c, d.K_len h1, h1, h2⟩⟩⟩
def cT (n : Int) : Term := ⟨-1, ⟨false, n, []⟩⟩
def cA (n : Int) : Arg := ⟨false, [cT n]⟩
theorem at_lit {w : World} {cs : Array Value} {t : TypeId} (k : Nat) {u : Value} (hk : cs[k]? = some u) : (w.alloc (.cells cs t)).cell? ((⟨w.heap.size, 0, none⟩ : Addr).add k) = some u := by
  rw [Addr.add_lit, Nat.zero_add, blk_cell0 (heap_alloc_new _ _), hk]
theorem lit_Term (w : World) (t : Term) {A : Option Addr} {c : Nat} (hc : t.c.s.length ≤ c) (hC : (Kd.int .i64).C (w.alloc (.cells #[.int .i64 t.var, .bool t.c.set, .int .i64 t.c.n, .slice A t.c.s.length c] 64)) A t.c.s.length t.c.s) :
    kTerm.C (w.alloc (.cells #[.int .i64 t.var, .bool t.c.set, .int .i64 t.c.n, .slice A t.c.s.length c] 64)) (some ⟨w.heap.size, 0, none⟩) 1 [t] := by
  refine C_of_at (xs := [t]) (by simp) ?_
  intro j x hx
  match j, hx with
  | 0, hx =>
    obtain rfl : t = x := by simpa using hx
    refine ⟨_, kTerm_mk _ t hc hC, fun i u hu => ?_⟩
    rw [Nat.zero_mul, Nat.zero_add]
    exact at_lit i (by simpa using hu)
set_option maxHeartbeats 1000000 in
theorem law_term (n : Int) (w : World) :
    Calls Tryz.prog 83 #[.int .i64 n] w fun e w' => ∃ A c, e = .returned (.agg #[.bool false, .slice A 1 c]) ∧ 1 ≤ c ∧ kTerm.C w' A 1 [cT n] ∧ Bel w w' := by
  go_enter Tryz.func83, Tryz.ntmps83
  go_wp2
  go_returns
  refine ⟨_, _, rfl, Nat.le_refl _, ?_, inferInstance⟩
  have h := lit_Term (w.alloc (.cells #[.bool false, .slice (some ⟨w.heap.size + 1, 0, none⟩) 1 1] 62)) (cT n) (A := none) (c := 0) (by simp [cT]) (Kd.C_nil _ _)
  simpa [cT] using h
def arithFam : ByteArray := ⟨#[97, 114, 105, 116, 104]⟩
set_option maxHeartbeats 1000000 in
theorem arith_Holds {name : ByteArray} {args : List Arg} {vs : List Val} {b : Bool} {x : Int} (A : Option Addr) (c : Nat) (B : Option Addr) (d : Nat) (w : World) (hm : ML w)
    (ha : kArg.C w A args.length args) (hv : kVal.C w B vs.length vs) (hpl : plainB name = true) (htr : truthsL name = []) (hf : (findR name).form.size < 4294967281) (hne : (findR name).form.toList.isEmpty = false) (hp : ∀ p ∈ partsL (findR name).form, 1 ≤ p.size ∧ p.size ≤ 1000)
    (hpn : (partsL (findR name).form).length ≤ 1000) (HM : rightE name args (vs.map Val.set) = 0 → rightVars vs (varsL args) = true → MeansIs 78 name (valuesL vs args) b x) (hvs : vs.length ≤ 1000000) :
    Calls Tryz.prog 38 #[.agg #[.string name, .slice A args.length c], .slice B vs.length d] w fun e w' => e = .returned (.tuple #[.bool (HoldsL arithFam name args vs b x).1, .int .i64 (HoldsL arithFam name args vs b x).2]) ∧ Bel w w' := by
  have HC := Lib.hid (fun (w' : World) (hb : Bel w w') => tool_Holds (mf := 78) (fam := arithFam) A c B d w' (hm.bel hb) (Kd.now ha hb) (Kd.now hv hb) hpl htr hf hne hp hpn HM hvs)
  obtain ⟨r, hr⟩ : ∃ r, HoldsL arithFam name args vs b x = r := ⟨_, rfl⟩
  rw [hr] at HC ⊢
  clear hm ha hv hpl htr hf hne hp hpn HM hvs hr
  unfold arithFam at HC
  go_enter Tryz.func38, Tryz.ntmps38
  go_wp2_with fail
  refine (HC.out _ inferInstance).mono ?_
  rintro e w1 ⟨rfl, HB⟩
  go_wp2
  go_ret2
  exact ⟨rfl, Bel.trans inferInstance HB⟩
def findD (name : ByteArray) : List Row → Row
  | [] => ⟨⟨#[]⟩, ⟨#[]⟩, ⟨#[]⟩⟩
  | r :: l => if r.name.data.toList == name.data.toList then r else findD name l
theorem findT_D (name : ByteArray) : ∀ l, findT name l = findD name l
  | [] => rfl
  | r :: l => by rw [findT, findD, findT_D name l, ByteArray.toList_eq, ByteArray.toList_eq]
theorem findR_D {name : ByteArray} {r : Row} (h : findD name rowsT = r) : findR name = r := (findT_D name rowsT).trans h
def form3 : ByteArray := ⟨#[73, 44, 73, 44, 73]⟩
theorem row_plus : findR nPlus = ⟨nPlus, form3, arithFam⟩ := findR_D (by kernel_rfl)
theorem row_times : findR nTimes = ⟨nTimes, form3, arithFam⟩ := findR_D (by kernel_rfl)
theorem row_min : findR nMin = ⟨nMin, form3, arithFam⟩ := findR_D (by kernel_rfl)
theorem row_max : findR nMax = ⟨nMax, form3, arithFam⟩ := findR_D (by kernel_rfl)
theorem row_div : findR nDiv = ⟨nDiv, form3, arithFam⟩ := findR_D (by kernel_rfl)
theorem row_mod : findR nMod = ⟨nMod, form3, arithFam⟩ := findR_D (by kernel_rfl)
theorem row_pow : findR nPow = ⟨nPow, form3, arithFam⟩ := findR_D (by kernel_rfl)
def part1 : ByteArray := ⟨#[73]⟩
theorem parts3 : partsL form3 = [part1, part1, part1] := by kernel_rfl
theorem truths3 : truthsF 0 [part1, part1, part1] = [] := by kernel_rfl
end Go.Proofs.YtkdedpofghlmoaaGreatDoor
