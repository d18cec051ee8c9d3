/- Proved here: parts of the proof of a given statement (HRowTypesNames): contracts of the functions that it reaches, what they answer, and in the last text the statement itself. Conditions: those that each theorem names. -/
import Derived.Test.YtgnklkmifcmlhaaZTnX6
import Derived.Test.YtgnklkmifcmlhaaZTnX8
/- Proved here: the reference's SameBinds answers true for equal substitutions. Conditions: those that each theorem names. -/
namespace Go.Proofs.Ytgnklkmifcmlhaa.Q
open Go.RowKit Go.Shelf Go.Proofs.YtgnklkmifcmlhaaW.PrintWords Go.Proofs.YtgnklkmifcmlhaaW.PrintMore
set_option linter.unusedVariables false
set_option linter.unusedSimpArgs false

theorem samebinds_ev (s : List S59) (hl : s.length ≤ 4611686018427387904) (hs : ∀ b, b ∈ s → szT b.f1 ≤ 4611686018427387904) : Ev (fun k => sequentref01_SameBinds.f k s s) true := by
  simp only [sequentref01_SameBinds.f]
  refine Ev.pos trivial ?_
  refine down (fun j => Ev (fun k => sequentref01_SameBinds.l0 k s s (j : Int)) true) s.length ?_ ?_
  · refine Ev.succ ?_
    simp only [sequentref01_SameBinds.l0]
    exact Ev.neg (by omega) (Ev.pure _)
  · intro j hj h
    refine Ev.succ ?_
    simp only [sequentref01_SameBinds.l0]
    refine Ev.pos (by omega) (Ev.pos (by omega) (Ev.pos (by omega) (Ev.pos trivial ?_)))
    rw [rdB s j hj, w64s (by omega)]
    exact Ev.bind (same_ev _ _ (hs _ (List.getElem_mem hj))) (Ev.pos (by rw [cmpT_self]; rfl) h)
end Go.Proofs.Ytgnklkmifcmlhaa.Q
