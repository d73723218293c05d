import Derived.SizedLaws
import Derived.WalkKit
import Derived.ProofKit
import Derived.OpenShut
import Derived.ChangeOld
import Derived.Below
import Derived.Test.YtkdgipcfodmceaaGreatLawsA
import Derived.Test.YtkdgipcfodmceaaGreatFacts
/- FnExactNewHouse holds for every input. No condition. -/
namespace Go.Proofs.YtkdgipcfodmceaaGreat
open Go.ChangeShapes Go.WideShapes Go.ChangeAt Go.RowKit
open Go.Rd (CallsOK dLiss dMeas law_NewHouse arg_sl arg_st liss_of meas_of shLis shMea ArgOK okW)
set_option linter.unusedVariables false

theorem own : ownKnob Tryz.prog.godebug = none := by kernel_rfl
theorem laidOut : laidOutB Tryz.prog = true := f_laid

theorem law_true {f : FuncId} {args : List Go.Rd.AV} (h : CallsOK Tryz.prog f args [.v (.bool true)]) {W : World} {vs : Array Value} (ha : Go.Rd.All2 (ArgOK (okW W) W) args vs.toList) :
    Calls Tryz.prog f vs W fun e w' => e = .returned (.bool true) ∧ Below W.heap.size W w' := by
  refine (h (okW W) W vs (fun _ h => h) ha).mono ?_
  rintro e w' ⟨v, ok', rfl, h1, _, _, _, h2⟩
  have : v = .bool true := by simpa [Go.Rd.ResOK, Go.Rd.RVOK, Go.Rd.Rep] using h2
  exact ⟨by rw [this], h1⟩

set_option maxRecDepth 100000 in
theorem lifted (os : Os) (started : os.Started) (H : Type) (enc : TypeId × Value → H) :
    ReturnsInHanded {} Tryz.checked os 3 .any (Rows.fnExactNewHouseSpec.pre6 enc Tryz.prog Tryz.f3 Rows.fnExactNewHouseRow.domain false) (Rows.fnExactNewHouseSpec.post enc Tryz.prog Tryz.f3 false true false false) := by
  refine returnsInHanded_of_change_sized (C := Tryz.checked) own started (by kernel_rfl) Tryz.func3
    (ChangeSpec.witness6 (enc := enc) (C := Tryz.checked) false ⟨#[], #[.slice none 0 0, .slice none 0 0], []⟩ 8 (by kernel_rfl) (by kernel_rfl) (by kernel_rfl) (by kernel_rfl)) ?_
  intro W base args ds gs before hval0 hW hcnd0 hsz0 hholds
  have hsz : (DataW.weightsEach Tryz.prog (Tryz.f3.params.toList ++ Rows.fnExactNewHouseSpec.plain.varTypes Tryz.prog) (ds ++ gs)).all (· ≤ reachBytes) = true := hsz0
  have hval : ∀ (j : Nat) t v, Tryz.f3.params[j]? = some t → args[j]? = some v → Value.okWide Tryz.prog W .any base t v := hval0
  have hW' := hW
  obtain ⟨p, q, hA0, hV, rfl, hfz, hnd⟩ := hW
  have hA : DataW.TrodAll enc Tryz.prog W 0 (fun _ => true) true Tryz.f3.params.toList args.toList ds p := hA0
  rw [Tryz.params3] at hA hval hsz
  obtain ⟨v0, vs0, d0, ds0, p0, q0, hargs, rfl, rfl, h0, r0⟩ := trodAll_cons hA
  obtain ⟨v1, vs1, d1, ds1, p1, q1, rfl, rfl, rfl, h1, r1⟩ := trodAll_cons r0
  obtain ⟨rfl, rfl, rfl⟩ := trodAll_nil r1
  obtain rfl : args = #[v0, v1] := by cases args; simp_all
  obtain ⟨rfl, rfl⟩ := trodVars_none hV
  have hw0 : ∀ n ∈ d0.weights Tryz.prog 22, n ≤ reachBytes := fun n hn => by
    have := List.all_eq_true.1 hsz n (DataW.weights_mem_each (j := 0) (t := 22) (d := d0) rfl rfl n hn); simpa using this
  have hw1 : ∀ n ∈ d1.weights Tryz.prog 23, n ≤ reachBytes := fun n hn => by
    have := List.all_eq_true.1 hsz n (DataW.weights_mem_each (j := 1) (t := 23) (d := d1) rfl rfl n hn); simpa using this
  have k0 := h0
  have k1 := h1
  have lt0 : ∀ x ∈ p0, x.block < W.heap.size := by obtain ⟨m, hm⟩ := k0; exact DataW.trod_lt m _ _ _ hm
  have lt1 : ∀ x ∈ p1, x.block < W.heap.size := by obtain ⟨m, hm⟩ := k1; exact DataW.trod_lt m _ _ _ hm
  obtain ⟨es0, l0, t0, a0⟩ := arg_sl (z := 4) (e := .st shLis) (by kernel_rfl) (hval 0 22 v0 rfl rfl) h0 hw0
  obtain ⟨es1, l1, t1, a1⟩ := arg_sl (z := 2) (e := .st shMea) (by kernel_rfl) (hval 1 23 v1 rfl rfl) h1 hw1
  obtain ⟨xs0, rfl, w0⟩ := liss_of t0
  obtain ⟨xs1, rfl, w1⟩ := meas_of t1
  clear hA0 hval0
  have hm : reachBytes ≤ 140737488355328 := by decide
  rw [List.length_map] at l0 l1
  refine (law_true (law_NewHouse xs0 xs1 (Nat.le_trans l0 hm) (Nat.le_trans l1 hm) (fun x hx => Nat.le_trans (w0 x hx) hm)) (W := W) (vs := #[v0, v1]) ⟨a0, a1, trivial⟩).mono fun e W' ⟨he, bel⟩ => ?_
  subst he
  exact ⟨_, rfl, _, _, _, [], _, [], hW', trodAll_mk1 (shut_bool (by kernel_rfl) _), (trodAll_cons_mk (Below.trod laidOut (by kernel_rfl) (of_decide_eq_true (by kernel_rfl)) k0 bel lt0) (trodAll_cons_mk (Below.trod laidOut (by kernel_rfl) (of_decide_eq_true (by kernel_rfl)) k1 bel lt1) trodAll_mk0)), rfl, bel.frame _, fun h => by cases h⟩

theorem over : Rows.fnExactNewHouseRow.holds Tryz.pinned (OpenSpec.ofChange Rows.fnExactNewHouseSpec) :=
  OpenClaim.holds_of_wide 3 Tryz.f3 rfl rfl rfl rfl rfl rfl rfl ⟨rfl, rfl, rfl, rfl, rfl⟩ rfl rfl rfl rfl rfl (by kernel_rfl) Tryz.func3 closed
    (of_decide_eq_true (by kernel_rfl)) (by unfold Func.isWrapper; first | (rw [if_pos (by decide +kernel)]; kernel_rfl) | (rw [if_neg (by decide +kernel)]; exact ⟨rfl, rfl⟩))
    (fun os started H enc _ => lifted os started H enc)

theorem proved : Rows.FnExactNewHouseSaid := over
#print axioms proved
end Go.Proofs.YtkdgipcfodmceaaGreat
