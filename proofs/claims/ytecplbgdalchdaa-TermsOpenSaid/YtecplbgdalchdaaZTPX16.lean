/- Proved here: parts of the proof of a given statement (HRowTermsOpen): contracts of the functions that it reaches, what they answer, and in the last text the statement itself. Conditions: those that each theorem names. -/
import Derived.Test.YtecplbgdalchdaaZTPX7
import Derived.Test.YtecplbgdalchdaaZTPX9
import Derived.Test.YtecplbgdalchdaaZTPX6
import Derived.Test.YtecplbgdalchdaaZTPX12
/- Proved here: what the reference's Exact answers in the end. Conditions: those that each theorem names. -/
namespace Go.Proofs.Ytecplbgdalchdaa.Q
open Go.RowKit Go.Shelf Go.Proofs.YtecplbgdalchdaaW.PrintWords Go.Proofs.YtecplbgdalchdaaW.PrintMore
set_option linter.unusedVariables false
set_option linter.unusedSimpArgs false

theorem exML_cons {l m : List S27} {j : Nat} (hj : j < l.length) (hm : j < m.length) : exML (l.drop j) (m.drop j) = (exM l[j] m[j] && exML (l.drop (j + 1)) (m.drop (j + 1))) := by
  rw [List.drop_eq_getElem_cons hj, List.drop_eq_getElem_cons hm]
  rfl
theorem rexact_ev (x : S27) : fitM x → ∀ y : S27, Ev (fun k => sequentref02_Exact.f k x.f0 x.f1 x.f2.f0 x.f2.f1 x.f2.f2 x.f3 x.f4 y.f0 y.f1 y.f2.f0 y.f2.f1 y.f2.f2 y.f3 y.f4) (exM x y) := by
  induction x using M_ind with
  | _ x ih =>
  intro hf y
  have hl := szML_len x.f4
  have hs := szM_eq x
  have hs2 := hf.2
  have ht : szT x.f2 ≤ 4611686018427387904 := (allM_top hf.1).2.1.1
  have hF : Ev (fun k => sequentref02_Exact.j0 k true x.f0 x.f1 x.f2.f0 x.f2.f1 x.f2.f2 x.f3 x.f4 y.f0 y.f1 y.f2.f0 y.f2.f1 y.f2.f2 y.f3 y.f4) false := by
    refine Ev.succ ?_
    simp only [sequentref02_Exact.j0]
    exact Ev.pos trivial (Ev.pure _)
  rw [exM_eq]
  unfold headX
  refine Ev.succ ?_
  simp only [sequentref02_Exact.f]
  refine Ev.ite (fun e0 => ?_) (fun e0 => hF.val (by rw [beq_eq_false_iff_ne.mpr e0]; rfl))
  rw [beq_iff_eq.mpr e0]
  refine Ev.ite (fun e1 => ?_) (fun e1 => hF.val (by rw [beq_eq_false_iff_ne.mpr e1]; rfl))
  rw [beq_iff_eq.mpr e1]
  refine Ev.bind (same_ev x.f2 y.f2 ht) (Ev.ite (fun e2 => ?_) (fun e2 => hF.val (by rw [Bool.eq_false_iff.mpr e2]; rfl)))
  rw [e2]
  refine Ev.ite (fun e3 => ?_) (fun e3 => hF.val (by rw [beq_eq_false_iff_ne.mpr e3]; rfl))
  rw [beq_iff_eq.mpr e3]
  refine Ev.succ ?_
  simp only [sequentref02_Exact.j0]
  refine Ev.ite (fun e4 => (Ev.pure _).val ?_) (fun e4 => ?_)
  · have hne : ¬ x.f4.length = y.f4.length := by
      have := bne_iff_ne.mp e4
      omega
    rw [beq_eq_false_iff_ne.mpr hne]
    rfl
  · have hlen : x.f4.length = y.f4.length := by
      rw [Bool.not_eq_true] at e4
      have := bne_eq_false_iff_eq.mp e4
      omega
    rw [beq_iff_eq.mpr hlen]
    show Ev _ (exML x.f4 y.f4)
    refine down (fun j => Ev (fun k => sequentref02_Exact.l0 k (j : Int) x.f0 x.f1 x.f2.f0 x.f2.f1 x.f2.f2 x.f3 x.f4 y.f0 y.f1 y.f2.f0 y.f2.f1 y.f2.f2 y.f3 y.f4) (exML (x.f4.drop j) (y.f4.drop j))) x.f4.length ?_ ?_
    · refine Ev.succ ?_
      simp only [sequentref02_Exact.l0]
      refine Ev.neg (by omega) ((Ev.pure _).val ?_)
      rw [List.drop_length]
      rfl
    · intro j hj h
      refine Ev.succ ?_
      simp only [sequentref02_Exact.l0]
      refine Ev.pos (by omega) (Ev.pos (by omega) (Ev.pos (by omega) ?_))
      rw [rdM x.f4 j hj, rdM y.f4 j (by omega)]
      refine Ev.bind (ih _ (List.getElem_mem hj) (fitM_sub hf (List.getElem_mem hj)) _) ?_
      rw [exML_cons hj (by omega), w64s (by omega)]
      refine Ev.ite (fun e5 => ?_) (fun e5 => (Ev.pure _).val ?_)
      · rw [e5]
        exact h
      · rw [Bool.eq_false_iff.mpr e5]
        rfl
end Go.Proofs.Ytecplbgdalchdaa.Q
/- Proved here: what the reference's Size, Depth, Small, count and Great of terms answer in the end. Conditions: those that each theorem names. -/
namespace Go.Proofs.Ytecplbgdalchdaa.Q
open Go.RowKit Go.Shelf Go.Proofs.YtecplbgdalchdaaW.PrintWords Go.Proofs.YtecplbgdalchdaaW.PrintMore
set_option linter.unusedVariables false
set_option linter.unusedSimpArgs false

theorem rsizeM_ev (t : S27) : szM t ≤ 4611686018427387904 → Ev (fun k => sequentref02_Size.f k t.f0 t.f1 t.f2.f0 t.f2.f1 t.f2.f2 t.f3 t.f4) (szM t : Int) := by
  induction t using M_ind with
  | _ t ih =>
  intro hb
  rw [szM_eq] at hb
  rw [szM_eq]
  refine Ev.succ ?_
  simp only [sequentref02_Size.f]
  have hl := szML_len t.f4
  refine Ev.cong (down (fun j => Ev (fun k => sequentref02_Size.l0 k ((1 + szML (t.f4.take j) : Nat) : Int) (j : Int) t.f0 t.f1 t.f2.f0 t.f2.f1 t.f2.f2 t.f3 t.f4) (((szML t.f4 + 1 : Nat) : Int))) t.f4.length ?_ ?_) (fun k => by simp [szML])
  · refine Ev.succ ?_
    simp only [sequentref02_Size.l0, List.take_length]
    exact Ev.neg (by omega) ((Ev.pure _).val (by omega))
  · intro j hj h
    refine Ev.succ ?_
    have hle := szML_le t.f4 j hj
    simp only [sequentref02_Size.l0]
    refine Ev.pos (by omega) (Ev.pos (by omega) ?_)
    rw [rdM t.f4 j hj]
    refine Ev.bind (ih _ (List.getElem_mem hj) (by omega)) ?_
    rw [w64s (by omega), w64 (by omega) (by omega)]
    rw [szML_take t.f4 j hj] at h
    exact h.cong (fun k => by congr 1; omega)
theorem rdepthM_ev (t : S27) : szM t ≤ 4611686018427387904 → Ev (fun k => sequentref02_Depth.f k t.f0 t.f1 t.f2.f0 t.f2.f1 t.f2.f2 t.f3 t.f4) (dpM t : Int) := by
  induction t using M_ind with
  | _ t ih =>
  intro hb
  have hd := dpM_le t
  rw [szM_eq] at hb hd
  rw [dpM_eq] at hd
  rw [dpM_eq]
  refine Ev.succ ?_
  simp only [sequentref02_Depth.f]
  have hl := szML_len t.f4
  refine Ev.cong (down (fun j => Ev (fun k => sequentref02_Depth.l0 k ((dpML (t.f4.take j) : Nat) : Int) (j : Int) t.f0 t.f1 t.f2.f0 t.f2.f1 t.f2.f2 t.f3 t.f4) (((dpML t.f4 + 1 : Nat) : Int))) t.f4.length ?_ ?_) (fun k => by simp [dpML])
  · refine Ev.succ ?_
    simp only [sequentref02_Depth.l0, List.take_length]
    refine Ev.neg (by omega) ((Ev.pure _).val ?_)
    rw [w64 (by omega) (by omega)]
    omega
  · intro j hj h
    refine Ev.succ ?_
    have hle := szML_le t.f4 j hj
    simp only [sequentref02_Depth.l0]
    refine Ev.pos (by omega) (Ev.pos (by omega) ?_)
    rw [rdM t.f4 j hj]
    refine Ev.bind (ih _ (List.getElem_mem hj) (by omega)) ?_
    rw [w64s (by omega), mx_nat]
    rw [dpML_take t.f4 j hj] at h
    exact h
theorem rsmallM_ev (t : S27) (h : szM t ≤ 4611686018427387904) : Ev (fun k => sequentref02_Small.f k t.f0 t.f1 t.f2.f0 t.f2.f1 t.f2.f2 t.f3 t.f4) (!bigM t) := by
  simp only [sequentref02_Small.f]
  refine Ev.bind (rsizeM_ev t h) (Ev.ite (fun e => Ev.bind (rdepthM_ev t h) ((Ev.pure _).val ?_)) (fun e => (Ev.pure _).val ?_))
  · unfold bigM
    rw [decide_eq_false (show ¬ 32000 < szM t by omega), Bool.false_or, ← decide_not]
    exact decide_eq_decide.2 (by omega)
  · unfold bigM
    rw [decide_eq_true (show 32000 < szM t by omega)]
    rfl
/-! ### Great -/
mutual
def cntM : S27 → Int → Nat → Int
  | ⟨_, n, ty, _, l⟩, left, d => match d with | 0 => 0 | d + 1 => if greatB ty = true then 0 else cntML l (left - 1 - (n.size : Int) / 100) d
def cntML : List S27 → Int → Nat → Int
  | [], left, _ => left
  | a :: l, left, d => if left > 0 then cntML l (cntM a left d) d else left
end
mutual
theorem cntM_bd : ∀ (t : S27) (left : Int) (d : Nat), left ≤ 40000 → 0 < left → cntM t left d ≤ 40000 ∧ (0 < cntM t left d → cntM t left d + szM t ≤ left ∧ allM (fun x => greatB x.f2 = false) t)
  | ⟨v, n, ty, i, l⟩, left, d, h1, h2 => by
    cases d with
    | zero => simp [cntM]
    | succ d =>
      simp only [cntM, szM, allM]
      by_cases hg : greatB ty = true
      · rw [if_pos hg]; exact ⟨by omega, fun h => by omega⟩
      · rw [if_neg hg]
        have := cntML_bd l (left - 1 - (n.size : Int) / 100) d (by omega)
        refine ⟨this.1, fun h => ?_⟩
        have h3 := this.2 h
        exact ⟨by omega, by simpa using hg, h3.2⟩
theorem cntML_bd : ∀ (l : List S27) (left : Int) (d : Nat), left ≤ 40000 → cntML l left d ≤ 40000 ∧ (0 < cntML l left d → cntML l left d + szML l ≤ left ∧ allML (fun x => greatB x.f2 = false) l)
  | [], left, d, h1 => by simp [cntML, szML, allML]; omega
  | a :: l, left, d, h1 => by
    simp only [cntML, szML, allML]
    split
    · rename_i h
      have h3 := cntM_bd a left d h1 h
      have h4 := cntML_bd l (cntM a left d) d h3.1
      refine ⟨h4.1, fun h5 => ?_⟩
      have h6 := h4.2 h5
      have h7 := h3.2 (by omega)
      exact ⟨by omega, h7.2, h6.2⟩
    · rename_i h; exact ⟨by omega, fun h5 => by omega⟩
end
theorem wdM_sub {t x : S27} (h : wdM t) (hx : x ∈ t.f4) : wdM x := allM_sub h hx
mutual
theorem cntM_lo : ∀ (t : S27) (left : Int) (d : Nat), wdM t → 0 < left → left ≤ 40000 → -461168601842738790 ≤ cntM t left d
  | ⟨v, n, ty, i, l⟩, left, d, hf, h1, h2 => by
    cases d with
    | zero => simp [cntM]
    | succ d =>
      simp only [cntM]
      have hn : n.size ≤ 4611686018427387904 := (allM_top hf).1
      split
      · omega
      · exact cntML_lo l _ d (fun x hx => wdM_sub (t := ⟨v, n, ty, i, l⟩) hf hx) (by omega) (by omega)
theorem cntML_lo : ∀ (l : List S27) (left : Int) (d : Nat), (∀ x, x ∈ l → wdM x) → left ≤ 40000 → -461168601842738790 ≤ left → -461168601842738790 ≤ cntML l left d
  | [], left, d, _, _, h => h
  | a :: l, left, d, hf, h1, h => by
    simp only [cntML]
    split
    · rename_i hp
      have h3 := cntM_lo a left d (hf a (List.mem_cons_self ..)) hp h1
      have h4 := (cntM_bd a left d h1 hp).1
      exact cntML_lo l _ d (fun x hx => hf x (List.mem_cons_of_mem _ hx)) h4 h3
    · exact h
end
theorem countM_ev (t : S27) : wdM t → ∀ (left : Int) (d : Nat), 0 < left → left ≤ 40000 → d ≤ 500 → Ev (fun k => sequentref02_count.f k t.f0 t.f1 t.f2.f0 t.f2.f1 t.f2.f2 t.f3 t.f4 left (d : Int)) (cntM t left d) := by
  induction t using M_ind with
  | _ t ih =>
    intro hf left d h1 h2 hd
    have hl : t.f4.length ≤ 4611686018427387904 := (allM_top hf).2.2.1
    have hn : t.f1.size ≤ 4611686018427387904 := (allM_top hf).1
    refine Ev.succ ?_
    simp only [sequentref02_count.f]
    cases d with
    | zero =>
      refine Ev.pos rfl (Ev.succ ?_)
      simp only [sequentref02_count.j0]
      refine Ev.pos trivial ((Ev.pure _).val ?_)
      cases t; simp [cntM]
    | succ d =>
      refine Ev.neg (by omega) (Ev.bind (great_ev t.f2 (allM_top hf).2.1) (Ev.succ ?_))
      simp only [sequentref02_count.j0]
      have hv : cntM t left (d + 1) = if greatB t.f2 = true then 0 else cntML t.f4 (left - 1 - (t.f1.size : Int) / 100) d := by cases t; simp [cntM]
      rw [hv]
      refine Ev.ite (fun e => (Ev.pure _).val (by rw [if_pos e])) (fun e => ?_)
      rw [if_neg e, w64 (x := left - 1) (by omega) (by omega), w64 (x := (t.f1.size : Int) / 100) (by omega) (by omega), w64 (by omega) (by omega)]
      have hloop : ∀ (m j : Nat), j + m = t.f4.length → ∀ left : Int, left ≤ 40000 → -461168601842738790 ≤ left → Ev (fun k => sequentref02_count.l0 k left ((d + 1 : Nat) : Int) (j : Int) t.f0 t.f1 t.f2.f0 t.f2.f1 t.f2.f2 t.f3 t.f4) (cntML (t.f4.drop j) left d) := by
        intro m
        induction m with
        | zero =>
          intro j hj left _ _
          refine Ev.succ ?_
          simp only [sequentref02_count.l0]
          refine Ev.neg (by omega) ((Ev.pure _).val ?_)
          rw [List.drop_of_length_le (by omega)]
          rfl
        | succ m ihm =>
          intro j hj left h3 h4
          have hjl : j < t.f4.length := by omega
          refine Ev.succ ?_
          simp only [sequentref02_count.l0]
          rw [List.drop_eq_getElem_cons hjl, cntML]
          refine Ev.pos (by omega) (Ev.ite (fun e => Ev.pos (by omega) ?_) (fun e => (Ev.pure _).val (by rw [if_neg e])))
          rw [rdM t.f4 j hjl, w64 (x := ((d + 1 : Nat) : Int) - 1) (by omega) (by omega), show ((d + 1 : Nat) : Int) - 1 = (d : Int) by omega, if_pos e]
          have hfx := wdM_sub hf (List.getElem_mem hjl)
          refine Ev.bind (ih _ (List.getElem_mem hjl) hfx left d e h3 (by omega)) ?_
          rw [w64s (by omega)]
          exact ihm (j + 1) (by omega) _ (cntM_bd _ left d h3 e).1 (cntM_lo _ left d hfx e h3)
      exact hloop t.f4.length 0 (by omega) _ (by omega) (by omega)
def grtM (t : S27) : Bool := if cntM t 2000 400 > 0 then false else if cntM t 40000 400 ≤ 0 then true else !bigM t
theorem rgreatM_ev (t : S27) (hf : wdM t) : Ev (fun k => sequentref02_Great.f k t.f0 t.f1 t.f2.f0 t.f2.f1 t.f2.f2 t.f3 t.f4) (grtM t) := by
  simp only [sequentref02_Great.f]
  unfold grtM
  refine Ev.bind (countM_ev t hf 2000 400 (by omega) (by omega) (by omega)) (Ev.ite (fun e => (Ev.pure _).val (by rw [if_pos e])) (fun e => ?_))
  rw [if_neg e]
  refine Ev.bind (countM_ev t hf 40000 400 (by omega) (by omega) (by omega)) (Ev.ite (fun e => (Ev.pure _).val (by rw [if_pos e])) (fun e => ?_))
  rw [if_neg e]
  have h := ((cntM_bd t 40000 400 (by omega) (by omega)).2 (by omega)).1
  exact Ev.bind (rsmallM_ev t (by omega)) (Ev.pure _)
/-- What is not great fits. -/
theorem grtM_fit {t : S27} (hw : wdM t) (h : grtM t = false) : fitM t ∧ szM t ≤ 40000 ∧ allM (fun x => szT x.f2 ≤ 1500) t := by
  have key : szM t ≤ 40000 ∧ allM (fun x => greatB x.f2 = false) t := by
    unfold grtM at h
    by_cases h1 : cntM t 2000 400 > 0
    · have := (cntM_bd t 2000 400 (by omega) (by omega)).2 (by omega)
      exact ⟨by omega, this.2⟩
    · rw [if_neg h1] at h
      by_cases h2 : cntM t 40000 400 ≤ 0
      · rw [if_pos h2] at h; cases h
      · have := (cntM_bd t 40000 400 (by omega) (by omega)).2 (by omega)
        exact ⟨by omega, this.2⟩
  have hs : allM (fun x => szT x.f2 ≤ 1500) t := allM_imp (fun x hx => greatB_sz hx) t key.2
  refine ⟨⟨?_, by omega⟩, key.1, hs⟩
  exact allM_imp (fun x hx => ⟨hx.1.1, fit_of_wd hx.1.2.1 (by have := hx.2; omega), by have := hx.2; omega, hx.1.2.2.2⟩) t (allM_and t hw hs)
end Go.Proofs.Ytecplbgdalchdaa.Q
