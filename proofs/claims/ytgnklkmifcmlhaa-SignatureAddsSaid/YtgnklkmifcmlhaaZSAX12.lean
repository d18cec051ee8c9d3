/- Proved here: parts of the proof of a given statement (HRowSignatureAdds): contracts of the functions that it reaches, what they answer, and in the last text the statement itself. Conditions: those that each theorem names. -/
import Derived.Test.YtgnklkmifcmlhaaZSAX7
import Derived.Test.YtgnklkmifcmlhaaZSAX11
import Derived.Test.YtgnklkmifcmlhaaZSAX3
import Derived.Test.YtgnklkmifcmlhaaZSAX4
/- Proved here: what the reference's functions on sizes, names and shapes of types answer in the end. Conditions: those that each theorem names. -/
namespace Go.Proofs.Ytgnklkmifcmlhaa.Q
open Go.RowKit Go.Proofs.YtgnklkmifcmlhaaW.PrintWords Go.Proofs.YtgnklkmifcmlhaaW.PrintMore
set_option linter.unusedVariables false
set_option linter.unusedSimpArgs false

theorem refsize_ev (t : S25) : szT t ≤ 4611686018427387904 → Ev (fun k => sequentref01_Size.f k t.f0 t.f1 t.f2) (szT t : Int) := by
  induction t using S_ind with
  | _ t ih =>
  intro hb
  rw [szT_eq] at hb ⊢
  refine Ev.succ ?_
  simp only [sequentref01_Size.f]
  have hl := szL_len t.f2
  refine Ev.cong (down (fun j => Ev (fun k => sequentref01_Size.l0 k ((1 + szL (t.f2.take j) : Nat) : Int) (j : Int) t.f0 t.f1 t.f2) ((szL t.f2 + 1 : Nat) : Int)) t.f2.length ?_ ?_) (fun k => by simp [szL])
  · refine Ev.succ ?_
    simp only [sequentref01_Size.l0, List.take_length]
    refine Ev.neg (by omega) (?_)
    exact (Ev.pure _).val (by omega)
  · intro j hj h
    refine Ev.succ ?_
    have hle := szL_le t.f2 j hj
    simp only [sequentref01_Size.l0]
    refine Ev.pos (by omega) (Ev.pos (by omega) (?_))
    rw [rdT t.f2 j hj]
    refine Ev.bind (ih _ (List.getElem_mem hj) (by omega)) ?_
    rw [w64s (by omega), w64 (by omega) (by omega)]
    rw [szL_take t.f2 j hj] at h
    exact h.cong (fun k => by congr 1; omega)
theorem refdepth_ev (t : S25) : szT t ≤ 4611686018427387904 → Ev (fun k => sequentref01_Depth.f k t.f0 t.f1 t.f2) (dpT t : Int) := by
  induction t using S_ind with
  | _ t ih =>
  intro hb
  have hd := dpT_le t
  rw [szT_eq] at hb hd
  rw [dpT_eq] at hd ⊢
  refine Ev.succ ?_
  simp only [sequentref01_Depth.f]
  have hl := szL_len t.f2
  refine Ev.cong (down (fun j => Ev (fun k => sequentref01_Depth.l0 k ((dpL (t.f2.take j) : Nat) : Int) (j : Int) t.f0 t.f1 t.f2) ((dpL t.f2 + 1 : Nat) : Int)) t.f2.length ?_ ?_) (fun k => by simp [dpL])
  · refine Ev.succ ?_
    simp only [sequentref01_Depth.l0, List.take_length]
    refine Ev.neg (by omega) (?_)
    rw [w64 (by omega) (by omega)]
    exact (Ev.pure _).val (by omega)
  · intro j hj h
    refine Ev.succ ?_
    have hle := szL_le t.f2 j hj
    simp only [sequentref01_Depth.l0]
    refine Ev.pos (by omega) (Ev.pos (by omega) (?_))
    rw [rdT t.f2 j hj]
    refine Ev.bind (ih _ (List.getElem_mem hj) (by omega)) ?_
    rw [w64s (by omega), mx_nat]
    rw [dpL_take t.f2 j hj] at h
    exact h

theorem refname_l0 (s : ByteArray) (hs : s.size ≤ 4611686018427387904) : ∀ (d j : Nat), j + d = s.size → Ev (fun k => sequentref01_Name.l0 k s (j : Int)) (okFrom s d j)
  | 0, j, hj => by
    refine Ev.succ ?_
    simp only [sequentref01_Name.l0]
    refine Ev.neg (by omega) ?_
    exact Ev.pure _
  | d + 1, j, hj => by
    have ih := refname_l0 s hs d (j + 1) (by omega)
    refine Ev.succ ?_
    simp only [sequentref01_Name.l0]
    refine Ev.pos (by omega) (Ev.pos (by omega) ?_)
    rw [← w64s (by omega)] at ih
    simp only [okFrom]
    generalize bt s (j : Int) = c at *
    refine Ev.ite (fun e => (Ev.pure _).val ?_) (fun e => Ev.ite (fun e2 => (Ev.pure _).val ?_) (fun e2 => Ev.ite (fun e3 => (Ev.pure _).val ?_) (fun e3 => Ev.ite (fun e4 => (Ev.pure _).val ?_) (fun e4 => Ev.ite (fun e5 => (Ev.pure _).val ?_) (fun e5 => Ev.ite (fun e6 => (Ev.pure _).val ?_) (fun e6 => Ev.ite (fun e7 => (Ev.pure _).val ?_) (fun e7 => Ev.ite (fun e8 => (Ev.pure _).val ?_) (fun e8 => Ev.ite (fun e9 => (Ev.pure _).val ?_) (fun e9 => ih.val ?_)))))))))
    · simp [okC, e]
    · simp [okC, e2]
    · simp [okC, e3]
    · simp [okC, e4]
    · simp [okC, e5]
    · simp [okC, e6]
    · simp [okC, e7]
    · simp [okC, e8]
    · simp [okC, e9]
    · simp only [okC, decide_eq_false e, decide_eq_false e2, beq_eq_false_iff_ne.mpr e3, beq_eq_false_iff_ne.mpr e4, beq_eq_false_iff_ne.mpr e5, beq_eq_false_iff_ne.mpr e6, beq_eq_false_iff_ne.mpr e7, beq_eq_false_iff_ne.mpr e8, beq_eq_false_iff_ne.mpr e9, Bool.or_false, Bool.not_false, Bool.true_and]
theorem refname_ev (s : ByteArray) (hs : s.size ≤ 4611686018427387904) : Ev (fun k => sequentref01_Name.f k s) (nameB s) := by
  simp only [sequentref01_Name.f]
  unfold nameB
  refine Ev.ite (fun e => Ev.succ ?_) (fun e => Ev.succ ?_)
  · simp only [sequentref01_Name.j0]
    refine Ev.pos trivial ((Ev.pure _).val ?_)
    rw [decide_eq_false (show ¬ 0 < s.size by omega)]
    rfl
  · simp only [sequentref01_Name.j0]
    refine Ev.ite (fun e2 => (Ev.pure _).val ?_) (fun e2 => (refname_l0 s hs s.size 0 (by omega)).val ?_)
    · rw [decide_eq_true_iff] at e2
      rw [decide_eq_false (show ¬ s.size ≤ 30 by omega)]
      simp
    · rw [decide_eq_true_iff] at e2
      rw [decide_eq_true (show s.size ≤ 30 by omega), decide_eq_true (show 0 < s.size by omega)]
      simp
theorem refsmall_ev (t : S25) (hf : szT t ≤ 4611686018427387904) : Ev (fun k => sequentref01_Small.f k t.f0 t.f1 t.f2) (decide (szT t ≤ 500) && decide (dpT t ≤ 200)) := by
  simp only [sequentref01_Small.f]
  refine Ev.bind (refsize_ev t hf) (Ev.ite (fun e => Ev.bind (refdepth_ev t hf) ((Ev.pure _).val ?_)) (fun e => (Ev.pure _).val ?_))
  · rw [decide_eq_true (show szT t ≤ 500 by omega), Bool.true_and]
    exact decide_eq_decide.2 (by omega)
  · rw [decide_eq_false (show ¬ szT t ≤ 500 by omega), Bool.false_and]
theorem shape_ev (t : S25) : fit t → Ev (fun k => sequentref01_shape.f k t.f0 t.f1 t.f2) (shB t) := by
  induction t using S_ind with
  | _ t ih =>
  intro hf
  have hb := hf.1
  rw [szT_eq] at hb
  have hl := szL_len t.f2
  have hloop : ∀ (b : Bool), Ev (fun k => sequentref01_shape.j0 k b t.f0 t.f1 t.f2) (!b && shBL t.f2) := by
    intro b
    refine Ev.succ ?_
    simp only [sequentref01_shape.j0]
    refine Ev.ite (fun e => (Ev.pure _).val (by simp [e])) (fun e => ?_)
    have hd := down (fun j => Ev (fun k => sequentref01_shape.l0 k (j : Int) t.f0 t.f1 t.f2) (shBL (t.f2.drop j))) t.f2.length ?_ ?_
    · rw [Bool.not_eq_true] at e
      exact hd.val (by simp [e])
    · refine Ev.succ ?_
      simp only [sequentref01_shape.l0]
      refine Ev.neg (by omega) ((Ev.pure _).val ?_)
      rw [List.drop_length]
      rfl
    · intro j hj h
      refine Ev.succ ?_
      simp only [sequentref01_shape.l0]
      refine Ev.pos (by omega) (Ev.pos (by omega) ?_)
      rw [rdT t.f2 j hj]
      refine Ev.bind (ih _ (List.getElem_mem hj) (fit_mem hf (List.getElem_mem hj))) ?_
      rw [w64s (by omega), shBL_drop t.f2 j hj]
      refine Ev.ite (fun e => h.val (by simp [e])) (fun e => (Ev.pure _).val ?_)
      rw [Bool.not_eq_true] at e
      simp [e]
  refine Ev.succ ?_
  simp only [sequentref01_shape.f]
  rw [shB_eq]
  unfold headB
  refine Ev.bind (refname_ev _ (fit_name hf)) (Ev.ite (fun e => Ev.pos (by have := nameB_pos e; omega) (Ev.ite (fun e2 => (hloop _).val ?_) (fun e2 => Ev.ite (fun e3 => Ev.ite (fun e4 => (hloop _).val ?_) (fun e4 => (hloop _).val ?_)) (fun e3 => (hloop _).val ?_)))) (fun e => (hloop _).val ?_))
  · rw [e]
    cases h0 : t.f0 <;> cases h1 : (bt t.f1 0 == 39) <;> rw [h0, h1] at e2 <;> simp_all
  · rw [e, if_pos e3, show (t.f2.length == 0) = false from beq_eq_false_iff_ne.mpr (by omega)]
    simp
  · rw [e, if_pos e3, show t.f2.length = 0 by omega]
    cases h1 : (bt t.f1 0 == 39) <;> rw [e3, h1] at e2 <;> simp_all
  · rw [e, if_neg e3]
    rw [Bool.not_eq_true] at e3
    cases h1 : (bt t.f1 0 == 39) <;> rw [e3, h1] at e2
    · simp only [Bool.not_false, Bool.true_and]
      congr 1
      rw [← decide_not]
      exact decide_eq_decide.2 (by omega)
    · simp at e2
  · rw [Bool.not_eq_true] at e
    rw [e]
    simp
theorem valid_ev (t : S25) (hf : fit t) : Ev (fun k => sequentref01_Valid.f k t.f0 t.f1 t.f2) (chkB t) := by
  simp only [sequentref01_Valid.f]
  unfold chkB
  refine Ev.bind (refsmall_ev t hf.1) (Ev.ite (fun e => Ev.bind (shape_ev t hf) ((Ev.pure _).val ?_)) (fun e => (Ev.pure _).val ?_))
  · rw [Bool.and_assoc, e, Bool.and_true]
  · rw [Bool.not_eq_true] at e
    rw [Bool.and_assoc, e, Bool.and_false]
end Go.Proofs.Ytgnklkmifcmlhaa.Q
/- Proved here: what the reference's Twin, Of and ValidBinds answer in the end. Conditions: those that each theorem names. -/
namespace Go.Proofs.Ytgnklkmifcmlhaa.Q
open Go.RowKit Go.Shelf Go.Proofs.YtgnklkmifcmlhaaW.PrintWords Go.Proofs.YtgnklkmifcmlhaaW.PrintMore
set_option linter.unusedVariables false
set_option linter.unusedSimpArgs false

/-! ### Twin, Inst of the reference -/
theorem take_snoc {α : Type} (l : List α) (j : Nat) (h : j < l.length) : l.take j ++ [l[j]] = l.take (j + 1) := by
  rw [List.take_add_one, List.getElem?_eq_getElem h]
  rfl
theorem reftwin_ev (t : S25) : szT t < 2932031007402 → Ev (fun k => sequentref01_Twin.f k t.f0 t.f1 t.f2) (t.f0, t.f1, t.f2) := by
  induction t using S_ind with
  | _ t ih =>
    intro hb
    rw [szT_eq] at hb
    have hl := szL_len t.f2
    refine Ev.succ ?_
    simp only [sequentref01_Twin.f]
    refine Ev.cong (down (fun j => Ev (fun k => sequentref01_Twin.l0 k (j : Int) t.f0 t.f1 t.f2 t.f0 t.f1 (t.f2.take j)) (t.f0, t.f1, t.f2)) t.f2.length ?_ ?_) (fun k => by simp)
    · refine Ev.succ ?_
      simp only [sequentref01_Twin.l0]
      refine Ev.neg (by omega) ((Ev.pure _).val ?_)
      rw [List.take_length]
    · intro j hj h
      refine Ev.succ ?_
      simp only [sequentref01_Twin.l0]
      refine Ev.pos (by omega) (Ev.pos (by omega) ?_)
      rw [rdT t.f2 j hj]
      have hm := szL_mem t.f2 _ (List.getElem_mem hj)
      refine Ev.bind (ih _ (List.getElem_mem hj) (by omega)) (Ev.pos (by rw [List.length_take]; omega) ?_)
      rw [w64s (by omega), show (⟨t.f2[j].f0, t.f2[j].f1, t.f2[j].f2⟩ : S25) = t.f2[j] by cases t.f2[j]; rfl, take_snoc t.f2 j hj]
      exact h
end Go.Proofs.Ytgnklkmifcmlhaa.Q
