/- Proved here: what the reference's Matched, Match and SameBinds answer in the end. Conditions: those that each theorem names. -/
import Derived.Test.YtgnklkmifcmlhaaHRefA
import Derived.Test.YtgnklkmifcmlhaaHMatchC
import Derived.Test.YtgnklkmifcmlhaaQ31
import Derived.Test.YtgnklkmifcmlhaaQ32
namespace Go.Proofs.Ytgnklkmifcmlhaa.Q
open Go.RowKit Go.Shelf Go.Proofs.YtgnklkmifcmlhaaW.PrintWords Go.Proofs.YtgnklkmifcmlhaaW.PrintMore
set_option linter.unusedVariables false
set_option linter.unusedSimpArgs false

mutual
theorem mtT_sz (M : Nat) : ∀ (p t : S25) (s s' : List S59), mtT p t s = some s' → szT t ≤ M → (∀ b, b ∈ s → szT b.f1 ≤ M) → ∀ b, b ∈ s' → szT b.f1 ≤ M
  | ⟨pv, pn, pl⟩, t, s, s', h, ht, hs => by
    simp only [mtT] at h
    split at h
    · split at h
      · split at h
        · injection h with h; subst h; exact hs
        · simp at h
      · injection h with h; subst h
        intro b hb
        rcases List.mem_append.1 hb with hb | hb
        · exact hs b hb
        · rw [List.mem_singleton.1 hb]; exact ht
    · split at h
      · simp at h
      · exact mtL_sz M pl t.f2 s s' h (fun x hx => by have := szL_mem t.f2 x hx; have := szT_eq t; omega) hs
theorem mtL_sz (M : Nat) : ∀ (l m : List S25) (s s' : List S59), mtL l m s = some s' → (∀ x, x ∈ m → szT x ≤ M) → (∀ b, b ∈ s → szT b.f1 ≤ M) → ∀ b, b ∈ s' → szT b.f1 ≤ M
  | [], m, s, s', h, hm, hs => by cases m <;> (simp only [mtL, Option.some.injEq] at h; subst h; exact hs)
  | a :: l, [], s, s', h, hm, hs => by simp only [mtL, Option.some.injEq] at h; subst h; exact hs
  | a :: l, b :: m, s, s', h, hm, hs => by
    simp only [mtL] at h
    cases hq : mtT a b s with
    | none => rw [hq] at h; simp at h
    | some s1 =>
      rw [hq] at h
      exact mtL_sz M l m s1 s' h (fun x hx => hm x (List.mem_cons_of_mem _ hx)) (mtT_sz M a b s s1 hq (hm b (List.mem_cons_self ..)) hs)
end
/-- What Matched answers in the end. -/
def EvO (f : Nat → Option (List S59 × Bool)) (o : Option (List S59)) : Prop := match o with
  | some l => Ev f (l, true)
  | none => ∃ l', Ev f (l', false)
theorem EvO.map {f g : Nat → Option (List S59 × Bool)} {o : Option (List S59)} (h : EvO f o) (hg : ∀ r, Ev f r → Ev g r) : EvO g o := by
  cases o with
  | none => obtain ⟨l, h⟩ := h; exact ⟨l, hg _ h⟩
  | some l => exact hg _ h
theorem matched_ev (p : S25) : ∀ (t : S25) (s : List S59), s.length + szT p ≤ 1000000 → szT t ≤ 1000000000 → (∀ b, b ∈ s → szT b.f1 ≤ 1000000000) → EvO (fun k => sequentref01_Matched.f k p.f0 p.f1 p.f2 t.f0 t.f1 t.f2 s) (mtT p t s) := by
  induction p using S_ind with
  | _ p ih =>
    intro t s hsl ht hs
    obtain ⟨pv, pn, pl⟩ := p
    dsimp only at ih ⊢
    simp only [szT] at hsl
    have hpl := szL_len pl
    cases pv with
    | true =>
      have hof := of_ev s pn (by omega)
      simp only [mtT, if_true]
      cases hf : s.find? (findP pn) with
      | some b =>
        have ho : ofR s pn = (b.f1, true) := by unfold ofR; rw [hf]
        rw [ho] at hof
        have hbs := hs b (List.mem_of_find?_eq_some hf)
        have hr : Ev (fun k => sequentref01_Matched.f k true pn pl t.f0 t.f1 t.f2 s) (s, cmpT b.f1 t == 0) := by
          refine Ev.succ ?_
          simp only [sequentref01_Matched.f]
          exact Ev.pos (by trivial) (Ev.bind hof (Ev.pos rfl (Ev.bind (same_ev b.f1 t (by omega)) (Ev.pure _))))
        dsimp only
        by_cases hc : cmpT b.f1 t = 0
        · rw [if_pos hc]
          exact hr.val (by rw [hc]; rfl)
        · rw [if_neg hc]
          exact ⟨s, hr.val (by rw [beq_eq_false_iff_ne.2 hc])⟩
      | none =>
        have ho : ofR s pn = (⟨true, pn, []⟩, false) := by unfold ofR; rw [hf]
        rw [ho] at hof
        show Ev _ _
        refine Ev.succ ?_
        simp only [sequentref01_Matched.f]
        refine Ev.pos (by trivial) (Ev.bind hof (Ev.neg (by simp) (Ev.bind (Ev.pure _) (Ev.pos (by simp only [List.length_nil]; omega) (Ev.bind (Ev.pure _) (Ev.bind (reftwin_ev t (by omega)) (Ev.pos (by simp only [List.nil_append]; omega) ?_)))))))
        exact (Ev.pure _).val (by cases t; simp)
    | false =>
      have hstep : ∀ bad : Bool, (bad = true ↔ (t.f0 = true ∨ t.f1 ≠ pn ∨ t.f2.length ≠ pl.length)) → ∀ r, Ev (fun k => sequentref01_Matched.j0 k s bad false pn pl t.f0 t.f1 t.f2) r → Ev (fun k => sequentref01_Matched.f k false pn pl t.f0 t.f1 t.f2 s) r := by
        intro bad hbad r h
        refine Ev.succ ?_
        simp only [sequentref01_Matched.f]
        refine Ev.neg (by simp) (Ev.ite (fun e => ?_) (fun e => Ev.ite (fun e2 => ?_) (fun e2 => ?_)))
        · rw [hbad.2 (Or.inl e)] at h
          exact h
        · rw [bytes_toList] at e2
          have he : ((pl.length : Int) != (t.f2.length : Int)) = bad := by
            rw [Bool.eq_iff_iff, hbad, bne_iff_ne]
            constructor
            · intro h1; exact Or.inr (Or.inr (by omega))
            · rintro (h1 | h1 | h1)
              · exact absurd h1 e
              · exact absurd e2.symm h1
              · omega
          rw [he]
          exact h
        · rw [bytes_toList] at e2
          rw [hbad.2 (Or.inr (Or.inl (fun h => e2 h.symm)))] at h
          exact h
      have hm : mtT ⟨false, pn, pl⟩ t s = if t.f0 = true ∨ t.f1 ≠ pn ∨ t.f2.length ≠ pl.length then none else mtL pl t.f2 s := by rw [mtT, if_neg (by simp)]
      rw [hm]
      by_cases hbad : t.f0 = true ∨ t.f1 ≠ pn ∨ t.f2.length ≠ pl.length
      · rw [if_pos hbad]
        refine ⟨[], hstep true (iff_of_true rfl hbad) _ (Ev.succ ?_)⟩
        simp only [sequentref01_Matched.j0]
        exact Ev.pos trivial (Ev.pure _)
      · rw [if_neg hbad]
        have hlen : t.f2.length = pl.length := by
          by_cases hl : t.f2.length = pl.length
          · exact hl
          · exact absurd (Or.inr (Or.inr hl)) hbad
        have htl : ∀ x, x ∈ t.f2 → szT x ≤ 1000000000 := fun x hx => by have := szL_mem t.f2 x hx; have := szT_eq t; omega
        have hloop : ∀ (m j : Nat), j + m = pl.length → ∀ s : List S59, s.length + szL (pl.drop j) ≤ 1000000 → (∀ b, b ∈ s → szT b.f1 ≤ 1000000000) → EvO (fun k => sequentref01_Matched.l0 k s (j : Int) false pn pl t.f0 t.f1 t.f2) (mtL (pl.drop j) (t.f2.drop j) s) := by
          intro m
          induction m with
          | zero =>
            intro j hj s _ _
            rw [List.drop_of_length_le (show pl.length ≤ j by omega), mtL]
            · show Ev _ _
              refine Ev.succ ?_
              simp only [sequentref01_Matched.l0]
              exact Ev.neg (by omega) (Ev.pure _)
            · intro _ _ _ _ h; simp at h
          | succ m ihm =>
            intro j hj s hsl hs
            have hjl : j < pl.length := by omega
            have hm := List.getElem_mem hjl
            rw [List.drop_eq_getElem_cons hjl, List.drop_eq_getElem_cons (show j < t.f2.length by omega), mtL]
            rw [List.drop_eq_getElem_cons hjl] at hsl
            simp only [szL] at hsl
            have hp := ih _ hm t.f2[j] s (by omega) (htl _ (List.getElem_mem _)) hs
            have hstp : ∀ r r', Ev (fun k => sequentref01_Matched.f k pl[j].f0 pl[j].f1 pl[j].f2 t.f2[j].f0 t.f2[j].f1 t.f2[j].f2 s) r → Ev (fun k => if r.2 = true then sequentref01_Matched.l0 k r.1 ((j + 1 : Nat) : Int) false pn pl t.f0 t.f1 t.f2 else some ([], false)) r' → Ev (fun k => sequentref01_Matched.l0 k s (j : Int) false pn pl t.f0 t.f1 t.f2) r' := by
              intro r r' h1 h2
              refine Ev.succ ?_
              simp only [sequentref01_Matched.l0]
              refine Ev.pos (by omega) (Ev.pos (by omega) (Ev.pos (by omega) ?_))
              rw [rdT pl j hjl, rdT t.f2 j (by omega), w64s (by omega)]
              exact Ev.bind h1 h2
            cases hq : mtT pl[j] t.f2[j] s with
            | none =>
              rw [hq] at hp
              obtain ⟨l', hp⟩ := hp
              exact ⟨[], hstp _ _ hp (Ev.neg (by simp) (Ev.pure _))⟩
            | some s1 =>
              rw [hq] at hp
              have hl1 := mtL_len _ _ _ _ hq
              exact (ihm (j + 1) (by omega) s1 (by omega) (mtT_sz _ _ _ _ _ hq (htl _ (List.getElem_mem _)) hs)).map (fun r h => hstp _ _ hp (Ev.pos rfl h))
        have h0 := hloop pl.length 0 (by omega) s (by rw [List.drop_zero]; omega) hs
        rw [List.drop_zero, List.drop_zero] at h0
        refine h0.map (fun r h => hstep false (iff_of_false (by simp) hbad) _ (Ev.succ ?_))
        simp only [sequentref01_Matched.j0]
        exact Ev.neg (by simp) h
theorem refmatch_ev (p t : S25) (s : List S59) (hl : s.length ≤ 500000) (hf : ∀ b, b ∈ s → fitB b) (hfp : fit p) (hft : fit t) :
    Ev (fun k => sequentref01_Match.f k p.f0 p.f1 p.f2 t.f0 t.f1 t.f2 s) (matchF p t s) := by
  simp only [sequentref01_Match.f]
  have hbad : Ev (fun k => sequentref01_Match.j0 k s true p.f0 p.f1 p.f2 t.f0 t.f1 t.f2) ([], false, 10) := by
    refine Ev.succ ?_
    simp only [sequentref01_Match.j0]
    exact Ev.pos trivial (Ev.pure _)
  have hv := validbinds_ev s (by omega) hf
  unfold matchF
  refine Ev.bind (valid_ev p hfp) (Ev.ite (fun e => Ev.bind (valid_ev t hft) (Ev.ite (fun e2 => Ev.bind hv ?_) (fun e2 => ?_))) (fun e => ?_))
  · cases hs : vldB s with
    | false =>
      rw [if_neg (by simp)]
      exact hbad
    | true =>
      rw [if_pos (by rw [e, e2]; rfl)]
      obtain ⟨_, hsp, _⟩ := chkB_sh e
      obtain ⟨_, hst, _⟩ := chkB_sh e2
      have hsb : ∀ b, b ∈ s → szT b.f1 ≤ 1000000000 := fun b hb => by have := (chkB_sh (vldB_mem hs hb).2).2.1; omega
      refine Ev.succ ?_
      simp only [sequentref01_Match.j0]
      refine Ev.neg (by simp) ?_
      have hm := matched_ev p t s (by omega) (by omega) hsb
      cases hq : mtT p t s with
      | none =>
        rw [hq] at hm
        obtain ⟨l', hm⟩ := hm
        exact Ev.bind hm (Ev.neg (by simp) (Ev.pure _))
      | some l =>
        rw [hq] at hm
        exact Ev.bind hm (Ev.pos rfl (Ev.pure _))
  · rw [Bool.not_eq_true] at e2
    rw [if_neg (by simp [e2])]
    exact hbad
  · rw [Bool.not_eq_true] at e
    rw [if_neg (by simp [e])]
    exact hbad
theorem samebinds_ev (s : List S59) (hl : s.length ≤ 4611686018427387904) (hs : ∀ b, b ∈ s → szT b.f1 ≤ 4611686018427387904) : Ev (fun k => sequentref01_SameBinds.f k s s) true := by
  simp only [sequentref01_SameBinds.f]
  refine Ev.pos trivial ?_
  refine down (fun j => Ev (fun k => sequentref01_SameBinds.l0 k s s (j : Int)) true) s.length ?_ ?_
  · refine Ev.succ ?_
    simp only [sequentref01_SameBinds.l0]
    exact Ev.neg (by omega) (Ev.pure _)
  · intro j hj h
    refine Ev.succ ?_
    simp only [sequentref01_SameBinds.l0]
    refine Ev.pos (by omega) (Ev.pos (by omega) (Ev.pos (by omega) (Ev.pos trivial ?_)))
    rw [rdB s j hj, w64s (by omega)]
    exact Ev.bind (same_ev _ _ (hs _ (List.getElem_mem hj))) (Ev.pos (by rw [cmpT_self]; rfl) h)
theorem matchF_sz (p t : S25) (s : List S59) (hsl : s.length ≤ 500000) : (matchF p t s).1.length ≤ 1000000 ∧ ∀ b, b ∈ (matchF p t s).1 → szT b.f1 ≤ 500 := by
  unfold matchF
  split
  · rename_i h
    rw [Bool.and_eq_true, Bool.and_eq_true] at h
    obtain ⟨_, hsp, _⟩ := chkB_sh h.1.1
    obtain ⟨_, hst, _⟩ := chkB_sh h.1.2
    cases hq : mtT p t s with
    | none => exact ⟨by simp, fun b hb => by simp at hb⟩
    | some l =>
      have := mtL_len _ _ _ _ hq
      exact ⟨by dsimp only; omega, mtT_sz 500 p t s l hq hst (fun b hb => (chkB_sh (vldB_mem h.2 hb).2).2.1)⟩
  · exact ⟨by simp, fun b hb => by simp at hb⟩
end Go.Proofs.Ytgnklkmifcmlhaa.Q
