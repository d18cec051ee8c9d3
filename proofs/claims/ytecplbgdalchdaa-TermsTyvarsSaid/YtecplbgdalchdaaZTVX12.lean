/- Proved here: parts of the proof of a given statement (HRowTermsTyvars): contracts of the functions that it reaches, what they answer, and in the last text the statement itself. Conditions: those that each theorem names. -/
import Derived.Test.YtecplbgdalchdaaZTVX6
import Derived.Test.YtecplbgdalchdaaZTVX4
import Derived.Test.YtecplbgdalchdaaZTVX3
import Derived.Test.YtecplbgdalchdaaZTVX11
/- Proved here: what the reference's Twin, Of and ValidBinds answer in the end. Conditions: those that each theorem names. -/
namespace Go.Proofs.Ytecplbgdalchdaa.Q
open Go.RowKit Go.Shelf Go.Proofs.YtecplbgdalchdaaW.PrintWords Go.Proofs.YtecplbgdalchdaaW.PrintMore
set_option linter.unusedVariables false
set_option linter.unusedSimpArgs false

/-! ### Twin, Inst of the reference -/
end Go.Proofs.Ytecplbgdalchdaa.Q
/- Proved here: what the reference's Fun answers in the end. Conditions: those that each theorem names. -/
namespace Go.Proofs.Ytecplbgdalchdaa.Q
open Go.RowKit Go.Proofs.YtecplbgdalchdaaW.PrintWords Go.Proofs.YtecplbgdalchdaaW.PrintMore
set_option linter.unusedVariables false
set_option linter.unusedSimpArgs false

theorem funN_list : funN.toList = [102, 117, 110] := by rw [Go.ByteArray.toList_eq]; rfl
end Go.Proofs.Ytecplbgdalchdaa.Q
