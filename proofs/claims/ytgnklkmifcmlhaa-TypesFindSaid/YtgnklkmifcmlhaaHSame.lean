/- Proved here: the contract of types.Same. Conditions: those that each theorem names. -/
import Derived.Test.YtgnklkmifcmlhaaHTree
namespace Go.Proofs.Ytgnklkmifcmlhaa.Q
open Go.RowKit Go.Shelf Go.Proofs.YtgnklkmifcmlhaaW.PrintWords Go.Proofs.YtgnklkmifcmlhaaW.PrintMore
set_option linter.unusedVariables false
set_option linter.unusedSimpArgs false
attribute [local go_sem] Oper.semAt_some
set_option maxHeartbeats 1000000 in
set_option maxRecDepth 100000 in
theorem same_calls (x y : S25) (A : Option Addr) (c : Nat) (B : Option Addr) (d : Nat) (w : World) (hA : k25.C w A x.f2.length x.f2) (hc : x.f2.length ≤ c) (hB : k25.C w B y.f2.length y.f2) (hd : y.f2.length ≤ d) :
    Calls Try.prog 35 #[.agg #[.bool x.f0, .string x.f1, .slice A x.f2.length c], .agg #[.bool y.f0, .string y.f1, .slice B y.f2.length d]] w fun e w' => e = .returned (.bool (cmpT x y == 0)) ∧ Below w.heap.size w w' := by
  have hcmp := fun W (hw : Below w.heap.size w W) => compare_ok _ x y (Nat.le_refl _) A c B d W (Kd.C_below hA hw) hc (Kd.C_below hB hw) hd
  have hb2 := below_two (w := w) (.cells #[.bool x.f0, .string x.f1, .slice A x.f2.length c] 25) (.cells #[.bool y.f0, .string y.f1, .slice B y.f2.length d] 25)
  clear hA hB hc hd
  go_enter Try.func35, Try.ntmps35
  go_wp2_with (go_at_call 33; refine (hcmp _ (by first | exact hb2 | exact Below.refl _ _)).mono ?_; rintro e W1 ⟨rfl, h1⟩)
  go_ret
  exact ⟨by simp, by first | exact below_step hb2 h1 | exact h1⟩
end Go.Proofs.Ytgnklkmifcmlhaa.Q
