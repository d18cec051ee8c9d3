/- Proved here: parts of the proof of a given statement (HRowTermsHints): contracts of the functions that it reaches, what they answer, and in the last text the statement itself. Conditions: those that each theorem names. -/
import Derived.Test.YtecplbgdalchdaaZTHX6
import Derived.Test.YtecplbgdalchdaaZTHX11
import Derived.Test.YtecplbgdalchdaaZTHX3
import Derived.Test.YtecplbgdalchdaaZTHX4
/- Proved here: what the reference's functions on sizes, names and shapes of types answer in the end. Conditions: those that each theorem names. -/
namespace Go.Proofs.Ytecplbgdalchdaa.Q
open Go.RowKit Go.Proofs.YtecplbgdalchdaaW.PrintWords Go.Proofs.YtecplbgdalchdaaW.PrintMore
set_option linter.unusedVariables false
set_option linter.unusedSimpArgs false

theorem refname_l0 (s : ByteArray) (hs : s.size ≤ 4611686018427387904) : ∀ (d j : Nat), j + d = s.size → Ev (fun k => sequentref01_Name.l0 k s (j : Int)) (okFrom s d j)
  | 0, j, hj => by
    refine Ev.succ ?_
    simp only [sequentref01_Name.l0]
    refine Ev.neg (by omega) ?_
    exact Ev.pure _
  | d + 1, j, hj => by
    have ih := refname_l0 s hs d (j + 1) (by omega)
    refine Ev.succ ?_
    simp only [sequentref01_Name.l0]
    refine Ev.pos (by omega) (Ev.pos (by omega) ?_)
    rw [← w64s (by omega)] at ih
    simp only [okFrom]
    generalize bt s (j : Int) = c at *
    refine Ev.ite (fun e => (Ev.pure _).val ?_) (fun e => Ev.ite (fun e2 => (Ev.pure _).val ?_) (fun e2 => Ev.ite (fun e3 => (Ev.pure _).val ?_) (fun e3 => Ev.ite (fun e4 => (Ev.pure _).val ?_) (fun e4 => Ev.ite (fun e5 => (Ev.pure _).val ?_) (fun e5 => Ev.ite (fun e6 => (Ev.pure _).val ?_) (fun e6 => Ev.ite (fun e7 => (Ev.pure _).val ?_) (fun e7 => Ev.ite (fun e8 => (Ev.pure _).val ?_) (fun e8 => Ev.ite (fun e9 => (Ev.pure _).val ?_) (fun e9 => ih.val ?_)))))))))
    · simp [okC, e]
    · simp [okC, e2]
    · simp [okC, e3]
    · simp [okC, e4]
    · simp [okC, e5]
    · simp [okC, e6]
    · simp [okC, e7]
    · simp [okC, e8]
    · simp [okC, e9]
    · simp only [okC, decide_eq_false e, decide_eq_false e2, beq_eq_false_iff_ne.mpr e3, beq_eq_false_iff_ne.mpr e4, beq_eq_false_iff_ne.mpr e5, beq_eq_false_iff_ne.mpr e6, beq_eq_false_iff_ne.mpr e7, beq_eq_false_iff_ne.mpr e8, beq_eq_false_iff_ne.mpr e9, Bool.or_false, Bool.not_false, Bool.true_and]
theorem refname_ev (s : ByteArray) (hs : s.size ≤ 4611686018427387904) : Ev (fun k => sequentref01_Name.f k s) (nameB s) := by
  simp only [sequentref01_Name.f]
  unfold nameB
  refine Ev.ite (fun e => Ev.succ ?_) (fun e => Ev.succ ?_)
  · simp only [sequentref01_Name.j0]
    refine Ev.pos trivial ((Ev.pure _).val ?_)
    rw [decide_eq_false (show ¬ 0 < s.size by omega)]
    rfl
  · simp only [sequentref01_Name.j0]
    refine Ev.ite (fun e2 => (Ev.pure _).val ?_) (fun e2 => (refname_l0 s hs s.size 0 (by omega)).val ?_)
    · rw [decide_eq_true_iff] at e2
      rw [decide_eq_false (show ¬ s.size ≤ 30 by omega)]
      simp
    · rw [decide_eq_true_iff] at e2
      rw [decide_eq_true (show s.size ≤ 30 by omega), decide_eq_true (show 0 < s.size by omega)]
      simp
end Go.Proofs.Ytecplbgdalchdaa.Q
/- Proved here: what the reference's Twin, Of and ValidBinds answer in the end. Conditions: those that each theorem names. -/
namespace Go.Proofs.Ytecplbgdalchdaa.Q
open Go.RowKit Go.Shelf Go.Proofs.YtecplbgdalchdaaW.PrintWords Go.Proofs.YtecplbgdalchdaaW.PrintMore
set_option linter.unusedVariables false
set_option linter.unusedSimpArgs false

/-! ### Twin, Inst of the reference -/
end Go.Proofs.Ytecplbgdalchdaa.Q
/- Proved here: what the reference's Fun answers in the end. Conditions: those that each theorem names. -/
namespace Go.Proofs.Ytecplbgdalchdaa.Q
open Go.RowKit Go.Proofs.YtecplbgdalchdaaW.PrintWords Go.Proofs.YtecplbgdalchdaaW.PrintMore
set_option linter.unusedVariables false
set_option linter.unusedSimpArgs false

theorem funN_list : funN.toList = [102, 117, 110] := by rw [Go.ByteArray.toList_eq]; rfl
end Go.Proofs.Ytecplbgdalchdaa.Q
/- Proved here: names of variables, constants and operators. Conditions: those that each theorem names. -/
namespace Go.Proofs.Ytecplbgdalchdaa.Q
open Go.RowKit Go.Shelf Go.Proofs.YtecplbgdalchdaaW.PrintWords Go.Proofs.YtecplbgdalchdaaW.PrintMore
set_option linter.unusedVariables false
set_option linter.unusedSimpArgs false

def nmC (n : ByteArray) : Bool := nameB n && !(bt n 0 == 39)
theorem chk_leaf (n : ByteArray) : chkB ⟨false, n, []⟩ = nmC n := by
  simp [chkB, shB, shBL, headB, nmC, szT, szL, dpT, dpL]
theorem rname_ev (n : ByteArray) (h : okS n) : Ev (fun k => sequentref02_Name.f k n) (nmC n) := by
  simp only [sequentref02_Name.f]
  refine Ev.bind (refname_ev n h) (Ev.ite (fun e => Ev.pos ?_ ((Ev.pure _).val ?_)) (fun e => (Ev.pure _).val ?_))
  · have e' := e
    simp only [nameB, Bool.and_eq_true, decide_eq_true_eq] at e'
    omega
  · simp [nmC, e, bne]
  · simp [nmC, e]

end Go.Proofs.Ytecplbgdalchdaa.Q
