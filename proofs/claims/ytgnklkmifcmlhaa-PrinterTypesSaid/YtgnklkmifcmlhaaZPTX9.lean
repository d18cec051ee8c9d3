/- Proved here: parts of the proof of a given statement (HRowPrinterTypes): contracts of the functions that it reaches, what they answer, and in the last text the statement itself. Conditions: those that each theorem names. -/
import Derived.Test.YtgnklkmifcmlhaaZPTX6
import Derived.Test.YtgnklkmifcmlhaaZPTX4
import Derived.Test.YtgnklkmifcmlhaaZPTX8
import Derived.Test.YtgnklkmifcmlhaaZPTX3
/- Proved here: what the reference's Twin, Of and ValidBinds answer in the end. Conditions: those that each theorem names. -/
namespace Go.Proofs.Ytgnklkmifcmlhaa.Q
open Go.RowKit Go.Shelf Go.Proofs.YtgnklkmifcmlhaaW.PrintWords Go.Proofs.YtgnklkmifcmlhaaW.PrintMore
set_option linter.unusedVariables false
set_option linter.unusedSimpArgs false

/-! ### Twin, Inst of the reference -/
theorem take_snoc {α : Type} (l : List α) (j : Nat) (h : j < l.length) : l.take j ++ [l[j]] = l.take (j + 1) := by
  rw [List.take_add_one, List.getElem?_eq_getElem h]
  rfl
theorem reftwin_ev (t : S25) : szT t < 2932031007402 → Ev (fun k => sequentref01_Twin.f k t.f0 t.f1 t.f2) (t.f0, t.f1, t.f2) := by
  induction t using S_ind with
  | _ t ih =>
    intro hb
    rw [szT_eq] at hb
    have hl := szL_len t.f2
    refine Ev.succ ?_
    simp only [sequentref01_Twin.f]
    refine Ev.cong (down (fun j => Ev (fun k => sequentref01_Twin.l0 k (j : Int) t.f0 t.f1 t.f2 t.f0 t.f1 (t.f2.take j)) (t.f0, t.f1, t.f2)) t.f2.length ?_ ?_) (fun k => by simp)
    · refine Ev.succ ?_
      simp only [sequentref01_Twin.l0]
      refine Ev.neg (by omega) ((Ev.pure _).val ?_)
      rw [List.take_length]
    · intro j hj h
      refine Ev.succ ?_
      simp only [sequentref01_Twin.l0]
      refine Ev.pos (by omega) (Ev.pos (by omega) ?_)
      rw [rdT t.f2 j hj]
      have hm := szL_mem t.f2 _ (List.getElem_mem hj)
      refine Ev.bind (ih _ (List.getElem_mem hj) (by omega)) (Ev.pos (by rw [List.length_take]; omega) ?_)
      rw [w64s (by omega), show (⟨t.f2[j].f0, t.f2[j].f1, t.f2[j].f2⟩ : S25) = t.f2[j] by cases t.f2[j]; rfl, take_snoc t.f2 j hj]
      exact h
end Go.Proofs.Ytgnklkmifcmlhaa.Q
