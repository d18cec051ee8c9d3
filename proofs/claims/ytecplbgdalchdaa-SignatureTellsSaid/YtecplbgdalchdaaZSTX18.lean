/- Proved here: parts of the proof of a given statement (HRowSignatureTells): contracts of the functions that it reaches, what they answer, and in the last text the statement itself. Conditions: those that each theorem names. -/
import Derived.Test.YtecplbgdalchdaaZSTX13
import Derived.Test.YtecplbgdalchdaaZSTX7
import Derived.Test.YtecplbgdalchdaaZSTX15
/- Proved here: what the reference's Fun answers in the end. Conditions: those that each theorem names. -/
namespace Go.Proofs.Ytecplbgdalchdaa.Q
open Go.RowKit Go.Proofs.YtecplbgdalchdaaW.PrintWords Go.Proofs.YtecplbgdalchdaaW.PrintMore
set_option linter.unusedVariables false
set_option linter.unusedSimpArgs false

theorem reffun_ev (x y : S24) (hx : szT x < 2932031007402) (hy : szT y < 2932031007402) : Ev (fun k => sequentref01_Fun.f k x.f0 x.f1 x.f2 y.f0 y.f1 y.f2) (false, funN, [x, y]) := by
  simp only [sequentref01_Fun.f]
  refine Ev.bind (reftwin_ev x hx) (Ev.bind (reftwin_ev y hy) ((Ev.pure _).val ?_))
  cases x; cases y
  rfl
end Go.Proofs.Ytecplbgdalchdaa.Q
