/- Proved here: parts of the proof of a given statement (HRowSignatureTells): contracts of the functions that it reaches, what they answer, and in the last text the statement itself. Conditions: those that each theorem names. -/
import Derived.Test.YtecplbgdalchdaaZSTX13
import Derived.Test.YtecplbgdalchdaaZSTX8
import Derived.Test.YtecplbgdalchdaaZSTX3
/- Proved here: what In answers in the end; the variables of a type as a list. Conditions: those that each theorem names. -/
namespace Go.Proofs.Ytecplbgdalchdaa.Q
open Go.RowKit Go.Proofs.YtecplbgdalchdaaW.PrintWords Go.Proofs.YtecplbgdalchdaaW.PrintMore
set_option linter.unusedVariables false
set_option linter.unusedSimpArgs false

/-! ### In -/
theorem inS_iff (l : List ByteArray) (a : ByteArray) : inS l a = true ↔ a ∈ l := by
  unfold inS
  rw [List.any_eq_true]
  constructor
  · rintro ⟨x, hx, he⟩
    have := (bytes_toList _ _).1 (beq_iff_eq.1 he)
    first
      | exact this ▸ hx
      | exact this.symm ▸ hx
  · intro h
    exact ⟨a, h, by simp⟩
/-! ### the variables of a type -/
end Go.Proofs.Ytecplbgdalchdaa.Q
