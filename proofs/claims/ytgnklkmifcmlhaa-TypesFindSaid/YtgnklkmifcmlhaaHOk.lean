/- Proved here: valid substitutions: what types.valid answers. Conditions: those that each theorem names. -/
import Derived.Test.YtgnklkmifcmlhaaHPure
import Derived.Test.YtgnklkmifcmlhaaHValid
namespace Go.Proofs.Ytgnklkmifcmlhaa.Q
open Go.RowKit Go.Shelf Go.Proofs.YtgnklkmifcmlhaaW.PrintWords Go.Proofs.YtgnklkmifcmlhaaW.PrintMore
set_option linter.unusedVariables false
set_option linter.unusedSimpArgs false
attribute [local go_sem] Oper.semAt_some

/-! ### What Inst answers -/
def vldB (s : List S59) : Bool := s.all fun b => varB b.f0 && chkB b.f1
def fitB (b : S59) : Prop := okS b.f0 ∧ fit b.f1
theorem oddBind_ev (b : S59) (h : fitB b) : Ev (fun k => oddBind k b) (!(varB b.f0 && chkB b.f1)) := by
  simp only [oddBind]
  refine Ev.bind (variable_ev _ h.1) (Ev.ite (fun e => Ev.bind (check_ev _ h.2) ((Ev.pure _).val ?_)) (fun e => (Ev.pure _).val ?_))
  · rw [e]
    cases chkB b.f1 <;> simp
  · rw [Bool.not_eq_true] at e
    rw [e]
    simp
theorem vld_ev : ∀ (s : List S59), (∀ b, b ∈ s → fitB b) → Ev (fun k => containsO (oddBind k) s) (!vldB s)
  | [], _ => (Ev.pure _).val (by simp [vldB])
  | b :: s, h => by
    have ih := vld_ev s (fun x hx => h x (List.mem_cons_of_mem _ hx))
    simp only [containsO]
    refine Ev.bind (oddBind_ev b (h b (List.mem_cons_self ..))) (Ev.ite (fun e => (Ev.pure _).val ?_) (fun e => ih.val ?_))
    · simp only [vldB, List.all_cons]
      cases hq : (varB b.f0 && chkB b.f1) <;> simp_all
    · simp only [vldB, List.all_cons]
      cases hq : (varB b.f0 && chkB b.f1) <;> simp_all
theorem valid_f_ev (s : List S59) (h : ∀ b, b ∈ s → fitB b) : Ev (fun k => types_valid.f k s) (vldB s) := by
  simp only [types_valid.f]
  exact Ev.bind (vld_ev s h) ((Ev.pure _).val (by simp))

theorem chkB_sh {t : S25} (h : chkB t = true) : shB t = true ∧ szT t ≤ 500 ∧ dpT t ≤ 200 := by
  unfold chkB at h
  simp only [Bool.and_eq_true, decide_eq_true_eq] at h
  exact ⟨h.1.1, h.1.2, h.2⟩
theorem vldB_mem {s : List S59} (h : vldB s = true) {b : S59} (hb : b ∈ s) : varB b.f0 = true ∧ chkB b.f1 = true := by
  unfold vldB at h
  rw [List.all_eq_true] at h
  have := h b hb
  simpa using this

end Go.Proofs.Ytgnklkmifcmlhaa.Q
