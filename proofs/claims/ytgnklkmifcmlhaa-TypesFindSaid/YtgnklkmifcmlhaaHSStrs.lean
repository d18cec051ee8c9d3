/- Proved here: the reference's SameStrings answers true for equal rows. Conditions: those that each theorem names. -/
import Derived.Test.YtgnklkmifcmlhaaHPure
import Derived.Test.YtgnklkmifcmlhaaQ44
namespace Go.Proofs.Ytgnklkmifcmlhaa.Q
open Go.RowKit Go.Shelf Go.Proofs.YtgnklkmifcmlhaaW.PrintWords Go.Proofs.YtgnklkmifcmlhaaW.PrintMore
set_option linter.unusedVariables false
set_option linter.unusedSimpArgs false
theorem samestrs_ev (s : List ByteArray) (hl : s.length ≤ 4611686018427387904) : Ev (fun k => sequentref01_SameStrings.f k s s) true := by
  simp only [sequentref01_SameStrings.f]
  refine Ev.pos trivial ?_
  refine down (fun j => Ev (fun k => sequentref01_SameStrings.l0 k s s (j : Int)) true) s.length ?_ ?_
  · refine Ev.succ ?_
    simp only [sequentref01_SameStrings.l0]
    exact Ev.neg (by omega) (Ev.pure _)
  · intro j hj h
    refine Ev.succ ?_
    simp only [sequentref01_SameStrings.l0]
    refine Ev.pos (by omega) (Ev.pos (by omega) (Ev.pos (by omega) (Ev.pos (by trivial) ?_)))
    rw [w64s (by omega)]
    exact h
end Go.Proofs.Ytgnklkmifcmlhaa.Q
