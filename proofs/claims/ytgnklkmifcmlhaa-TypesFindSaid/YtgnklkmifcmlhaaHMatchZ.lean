/- Proved here: the sizes of what Match finds. Conditions: those that each theorem names. -/
import Derived.Test.YtgnklkmifcmlhaaHMatchC
namespace Go.Proofs.Ytgnklkmifcmlhaa.Q
open Go.RowKit Go.Shelf Go.Proofs.YtgnklkmifcmlhaaW.PrintWords Go.Proofs.YtgnklkmifcmlhaaW.PrintMore
set_option linter.unusedVariables false
set_option linter.unusedSimpArgs false

mutual
theorem mtT_sz (M : Nat) : ∀ (p t : S25) (s s' : List S59), mtT p t s = some s' → szT t ≤ M → (∀ b, b ∈ s → szT b.f1 ≤ M) → ∀ b, b ∈ s' → szT b.f1 ≤ M
  | ⟨pv, pn, pl⟩, t, s, s', h, ht, hs => by
    simp only [mtT] at h
    split at h
    · split at h
      · split at h
        · injection h with h; subst h; exact hs
        · simp at h
      · injection h with h; subst h
        intro b hb
        rcases List.mem_append.1 hb with hb | hb
        · exact hs b hb
        · rw [List.mem_singleton.1 hb]; exact ht
    · split at h
      · simp at h
      · exact mtL_sz M pl t.f2 s s' h (fun x hx => by have := szL_mem t.f2 x hx; have := szT_eq t; omega) hs
theorem mtL_sz (M : Nat) : ∀ (l m : List S25) (s s' : List S59), mtL l m s = some s' → (∀ x, x ∈ m → szT x ≤ M) → (∀ b, b ∈ s → szT b.f1 ≤ M) → ∀ b, b ∈ s' → szT b.f1 ≤ M
  | [], m, s, s', h, hm, hs => by cases m <;> (simp only [mtL, Option.some.injEq] at h; subst h; exact hs)
  | a :: l, [], s, s', h, hm, hs => by simp only [mtL, Option.some.injEq] at h; subst h; exact hs
  | a :: l, b :: m, s, s', h, hm, hs => by
    simp only [mtL] at h
    cases hq : mtT a b s with
    | none => rw [hq] at h; simp at h
    | some s1 =>
      rw [hq] at h
      exact mtL_sz M l m s1 s' h (fun x hx => hm x (List.mem_cons_of_mem _ hx)) (mtT_sz M a b s s1 hq (hm b (List.mem_cons_self ..)) hs)
end
theorem matchF_sz (p t : S25) (s : List S59) (hsl : s.length ≤ 500000) : (matchF p t s).1.length ≤ 1000000 ∧ ∀ b, b ∈ (matchF p t s).1 → szT b.f1 ≤ 500 := by
  unfold matchF
  split
  · rename_i h
    rw [Bool.and_eq_true, Bool.and_eq_true] at h
    obtain ⟨_, hsp, _⟩ := chkB_sh h.1.1
    obtain ⟨_, hst, _⟩ := chkB_sh h.1.2
    cases hq : mtT p t s with
    | none => exact ⟨by simp, fun b hb => by simp at hb⟩
    | some l =>
      have := mtL_len _ _ _ _ hq
      exact ⟨by dsimp only; omega, mtT_sz 500 p t s l hq hst (fun b hb => (chkB_sh (vldB_mem h.2 hb).2).2.1)⟩
  · exact ⟨by simp, fun b hb => by simp at hb⟩
end Go.Proofs.Ytgnklkmifcmlhaa.Q
