/- Proved here: parts of the proof of a given statement (HRowSignatureAdds): contracts of the functions that it reaches, what they answer, and in the last text the statement itself. Conditions: those that each theorem names. -/
import Derived.Test.YtgnklkmifcmlhaaZSAX5
import Derived.Test.YtgnklkmifcmlhaaZSAX7
/- Proved here: the closure add of printer.CheckSyntax puts a name into a set of names and tells whether it was valid and new. Conditions: those that each theorem names. -/
namespace Go.Proofs.Ytgnklkmifcmlhaa.Q
open Go.RowKit Go.Shelf Go.Proofs.YtgnklkmifcmlhaaW.PrintWords Go.Proofs.YtgnklkmifcmlhaaW.PrintMore
set_option linter.unusedVariables false
set_option linter.unusedSimpArgs false
attribute [local go_sem] Oper.semAt_some

/-- All but block m stays. -/
structure But (m : Nat) (w w' : World) : Prop where
  os : w'.os = w.os
  tape : w'.tape = w.tape
  output : w'.output = w.output
  size : w.heap.size ≤ w'.heap.size
  block : ∀ k, k < w.heap.size → k ≠ m → w'.heap[k]? = w.heap[k]?
theorem But.of {m : Nat} {w w' : World} (h : Below w.heap.size w w') : But m w w' := ⟨h.os, h.tape, h.output, h.size, fun k hk _ => h.block k hk⟩
theorem But.trans {m : Nat} {w w1 w2 : World} (h : But m w w1) (g : But m w1 w2) : But m w w2 :=
  ⟨g.os.trans h.os, g.tape.trans h.tape, g.output.trans h.output, Nat.le_trans h.size g.size, fun k hk hm => (g.block k (Nat.lt_of_lt_of_le hk h.size) hm).trans (h.block k hk hm)⟩
theorem But.put (m : Nat) (w : World) (o : Obj) : But m w { w with heap := w.heap.setIfInBounds m o } :=
  ⟨rfl, rfl, rfl, by simp, fun k hk hm => by
    show (w.heap.setIfInBounds m o)[k]? = w.heap[k]?
    rw [Array.getElem?_setIfInBounds_ne (Ne.symm hm)]⟩
theorem But.below {base m : Nat} {v w w' : World} (h : Below base v w) (g : But m w w') (hb : base ≤ m) (hv : base ≤ v.heap.size) : Below base v w' :=
  ⟨g.os.trans h.os, g.tape.trans h.tape, g.output.trans h.output, Nat.le_trans h.size g.size, fun k hk => (g.block k (Nat.lt_of_lt_of_le hk (Nat.le_trans hv h.size)) (by omega)).trans (h.block k hk)⟩

end Go.Proofs.Ytgnklkmifcmlhaa.Q
/- Defined here: what printer.CheckSyntax reckons, in plain Lean over the test of a name. Conditions: those that each theorem names. -/
namespace Go.Proofs.Ytgnklkmifcmlhaa.Q
open Go.RowKit Go.Shelf Go.Proofs.YtgnklkmifcmlhaaW.PrintWords Go.Proofs.YtgnklkmifcmlhaaW.PrintMore
set_option linter.unusedVariables false
set_option linter.unusedSimpArgs false

/-! ### More fuel, the same answer -/
variable {v v' : ByteArray → Option Bool}
/-! ### One step -/
end Go.Proofs.Ytgnklkmifcmlhaa.Q
