/- Proved here: parts of the proof of a given statement (HRowTypesNames): contracts of the functions that it reaches, what they answer, and in the last text the statement itself. Conditions: those that each theorem names. -/
import Derived.Test.YtgnklkmifcmlhaaZTnX6
import Derived.ChangeArms
import Derived.SizedLaws
import Derived.Carry
/- Proved here: an argument's reading, opened. Conditions: those that each theorem names. -/
namespace Go.Proofs.Ytgnklkmifcmlhaa.Q
open Go.RowKit Go.Proofs.YtgnklkmifcmlhaaW.PrintWords Go.Proofs.YtgnklkmifcmlhaaW.PrintMore
set_option linter.unusedVariables false
set_option linter.unusedSimpArgs false

/-! ### An argument's reading, opened -/
section
variable {H : Type} {enc : TypeId × Value → H} {P : Program} {W : World} {base : Nat} {spare : Nat → Bool} {held : Bool}
variable (enc P W base spare held) in
end

/-! #### this program's types -/
end Go.Proofs.Ytgnklkmifcmlhaa.Q
