/- Proved here: parts of the proof of a given statement (HRowPrinterTypes): contracts of the functions that it reaches, what they answer, and in the last text the statement itself. Conditions: those that each theorem names. -/
import Derived.Test.YtgnklkmifcmlhaaRows
import Derived.Test.YtgnklkmifcmlhaaZPTX20
import Derived.WalkKit
import Derived.ProofKit
import Derived.OpenShut
import Derived.ShutString
import Derived.ChangeOld
import Derived.Below
import Derived.SizedLaws
import Derived.Carry
/- Proved here: the law PrinterTypes returns true at every input, and each argument reads afterwards as it read before. Conditions: none but those of the given statement. -/
namespace Go.Proofs.Ytgnklkmifcmlhaa.printerTypes
open Go.ChangeShapes Go.WideShapes Go.ChangeAt Go.RowKit Go.Proofs.Ytgnklkmifcmlhaa.Q
open Go.ChangeMaps (open_string shut_string)
set_option linter.unusedVariables false
theorem own : ownKnob Try.prog.godebug = none := by kernel_rfl
theorem laidOut : laidOutB Try.prog = true := by kernel_rfl
set_option maxRecDepth 100000 in
theorem lifted (os : Os) (started : os.Started) (H : Type) (enc : TypeId × Value → H) :
    ReturnsInHanded {} Try.checked os 11 .any (Rows.printerTypesSpec.pre6 enc Try.prog Try.f11 Rows.printerTypesRow.domain false) (Rows.printerTypesSpec.post enc Try.prog Try.f11 false true false false) := by
  refine returnsInHanded_of_change_sized (C := Try.checked) own started (by kernel_rfl) Try.func11
    (ChangeSpec.witness6 (enc := enc) (C := Try.checked) false ⟨#[], #[.agg #[.bool false, .string ByteArray.empty, .slice none 0 0], .agg #[.slice none 0 0, .slice none 0 0, .slice none 0 0, .slice none 0 0]], []⟩ 8 (by kernel_rfl) (by kernel_rfl) (by kernel_rfl) (by kernel_rfl)) ?_
  intro W base args ds gs before hval0 hW hcnd hsz0 _
  have hsz : (DataW.weightsEach Try.prog (Try.f11.params.toList ++ Rows.printerTypesSpec.plain.varTypes Try.prog) (ds ++ gs)).all (· ≤ reachBytes) = true := hsz0
  have hval : ∀ (j : Nat) t v, Try.f11.params[j]? = some t → args[j]? = some v → Value.okWide Try.prog W .any base t v := hval0
  have hW' := hW
  obtain ⟨p, q, hA0, hV, rfl, hfz, hnd⟩ := hW
  have hA : DataW.TrodAll enc Try.prog W 0 (fun _ => true) true Try.f11.params.toList args.toList ds p := hA0
  rw [Try.params11] at hA hval hsz
  obtain ⟨v0, vs0, d0, ds0, p0, q0, hargs, rfl, rfl, h0, r0⟩ := trodAll_cons hA
  obtain ⟨v1, vs1, d1, ds1, p1, q1, rfl, rfl, rfl, h1, r1⟩ := trodAll_cons r0
  obtain ⟨rfl, rfl, rfl⟩ := trodAll_nil r1
  obtain rfl : args = #[v0, v1] := by cases args; simp_all
  obtain ⟨rfl, rfl⟩ := trodVars_none hV
  have k0 := h0
  have lt0 : ∀ x ∈ p0, x.block < W.heap.size := by obtain ⟨m, hm⟩ := k0; exact DataW.trod_lt m _ _ _ hm
  obtain ⟨x0, A0, c0, e0, l0, C0, w0⟩ := open_type h0 (fun q hq => of_decide_eq_true (List.all_eq_true.1 hsz q (DataW.weights_mem_each (j := 0) (t := 25) (d := d0) rfl rfl q hq)))
  obtain ⟨cs0, rfl, _⟩ := okWide_struct Try.underlying25 (hval 0 25 v0 rfl rfl)
  obtain rfl : cs0 = #[.bool x0.f0, .string x0.f1, .slice A0 x0.f2.length c0] := by rw [← Array.toList_inj]; exact e0
  have k1 := h1
  have lt1 : ∀ x ∈ p1, x.block < W.heap.size := by obtain ⟨m, hm⟩ := k1; exact DataW.trod_lt m _ _ _ hm
  obtain ⟨m10, m11, m12, m13, ⟨A10, c10, A11, c11, A12, c12, A13, c13, e1, l10, C10, l11, C11, l12, C12, l13, C13⟩, ⟨z10, z11, z12, z13⟩, g10, g11, g12, g13⟩ := open_syntax h1 (fun q hq => of_decide_eq_true (List.all_eq_true.1 hsz q (DataW.weights_mem_each (j := 1) (t := 69) (d := d1) rfl rfl q hq)))
  obtain ⟨cs1, rfl, _⟩ := okWide_struct Try.underlying69 (hval 1 69 v1 rfl rfl)
  obtain rfl : cs1 = #[.slice A10 m10.length c10, .slice A11 m11.length c11, .slice A12 m12.length c12, .slice A13 m13.length c13] := by rw [← Array.toList_inj]; exact e1
  clear hA0 hval0 hsz0 hsz
  refine (law_print x0 A0 c0 m10 A10 c10 m11 A11 c11 m12 A12 c12 m13 A13 c13 W C0 l0 (wide_wd w0) C10 l10 C11 l11 C12 l12 C13 l13 z10 z11 z12 z13 g10 g11 g12 g13).mono fun e W' ⟨he, bel⟩ => ?_
  subst he
  exact ⟨_, rfl, _, _, _, [], _, [], hW', trodAll_mk1 (shut_bool Try.underlying4 _), (trodAll_cons_mk (Below.trod laidOut (by kernel_rfl) (of_decide_eq_true (by kernel_rfl)) k0 bel lt0) (trodAll_cons_mk (Below.trod laidOut (by kernel_rfl) (of_decide_eq_true (by kernel_rfl)) k1 bel lt1) trodAll_mk0)), rfl, bel.frame _, fun h => by cases h⟩
theorem over : Rows.printerTypesRow.holds Try.pinned (OpenSpec.ofChange Rows.printerTypesSpec) :=
  OpenClaim.holds_of_wide 11 Try.f11 rfl rfl rfl rfl rfl rfl rfl ⟨rfl, rfl, rfl, rfl, rfl⟩ rfl rfl rfl rfl rfl (by kernel_rfl) Try.func11 (by kernel_rfl)
    (of_decide_eq_true (by kernel_rfl)) (by unfold Func.isWrapper; first | (rw [if_pos (by decide +kernel)]; kernel_rfl) | (rw [if_neg (by decide +kernel)]; exact ⟨rfl, rfl⟩))
    (fun os started H enc _ => lifted os started H enc)
theorem proved : Rows.PrinterTypesSaid := over
end Go.Proofs.Ytgnklkmifcmlhaa.printerTypes
namespace Go.Proofs.Ytgnklkmifcmlhaa
/-- The row, under a short name, for the claim. -/
theorem printerTypes_holds : Rows.PrinterTypesSaid := printerTypes.proved
end Go.Proofs.Ytgnklkmifcmlhaa
