/- Proved here: matching is sound and complete (plain laws, no program in sight). Conditions: those that each theorem names. -/
import Derived.Test.YtgnklkmifcmlhaaHInstC
import Derived.Test.YtgnklkmifcmlhaaHMatchC
import Derived.Test.YtgnklkmifcmlhaaHOrder
import Derived.Test.YtgnklkmifcmlhaaHRefC
namespace Go.Proofs.Ytgnklkmifcmlhaa.Q
open Go.RowKit Go.Proofs.YtgnklkmifcmlhaaW.PrintWords Go.Proofs.YtgnklkmifcmlhaaW.PrintMore
set_option linter.unusedVariables false
set_option linter.unusedSimpArgs false

/-! ### compared 0: equal -/
theorem lx_zero {a b : Int} : lx a b = 0 ↔ a = 0 ∧ b = 0 := by
  unfold lx
  split <;> omega
theorem headC_zero {x y : S25} (h : headC x y = 0) : x.f0 = y.f0 ∧ x.f1 = y.f1 := by
  unfold headC at h
  rw [or3_lx, lx_zero, lx_zero, cmpI_zero, cmpI_zero] at h
  obtain ⟨e1, e2, _⟩ := h
  refine ⟨?_, ?_⟩
  · cases hx : x.f0 <;> cases hy : y.f0 <;> simp [hx, hy, rankT] at e1 ⊢
  · rw [cmpB_eq] at e2
    split at e2
    · rename_i he
      rw [← Go.ByteArray.toList_eq, ← Go.ByteArray.toList_eq, bytes_toList] at he
      exact he
    · split at e2 <;> simp at e2
mutual
theorem cmpT_zero : ∀ x y : S25, cmpT x y = 0 → x = y
  | ⟨a, b, l⟩, ⟨a', b', l'⟩, h => by
    rw [cmpT_lx, lx_zero] at h
    obtain ⟨h1, h2⟩ := h
    obtain ⟨e1, e2⟩ := headC_zero h1
    have e3 := cmpL_zero l l' h2
    dsimp only at e1 e2
    rw [e1, e2, e3]
theorem cmpL_zero : ∀ l m : List S25, cmpL l m = 0 → l = m
  | [], [], _ => rfl
  | [], _ :: _, h => by simp [cmpL] at h
  | _ :: _, [], h => by simp [cmpL] at h
  | a :: l, b :: m, h => by
    rw [cmpL_lx, lx_zero] at h
    rw [cmpT_zero a b h.1, cmpL_zero l m h.2]
end
theorem cmpT_iff (x y : S25) : cmpT x y = 0 ↔ x = y := ⟨cmpT_zero x y, fun h => by rw [h, cmpT_self]⟩

/-! ### what is found extends what was given -/
mutual
theorem mtT_ext : ∀ (p t : S25) (s l : List S59), mtT p t s = some l → ∃ e, l = s ++ e
  | ⟨pv, pn, pl⟩, t, s, l, h => by
    simp only [mtT] at h
    split at h
    · split at h
      · split at h
        · injection h with h; exact ⟨[], by rw [← h, List.append_nil]⟩
        · simp at h
      · injection h with h; exact ⟨_, h.symm⟩
    · split at h
      · simp at h
      · exact mtL_ext pl t.f2 s l h
theorem mtL_ext : ∀ (l m : List S25) (s r : List S59), mtL l m s = some r → ∃ e, r = s ++ e
  | [], m, s, r, h => by cases m <;> (simp only [mtL, Option.some.injEq] at h; exact ⟨[], by rw [← h, List.append_nil]⟩)
  | a :: l, [], s, r, h => by simp only [mtL, Option.some.injEq] at h; exact ⟨[], by rw [← h, List.append_nil]⟩
  | a :: l, b :: m, s, r, h => by
    simp only [mtL] at h
    cases hq : mtT a b s with
    | none => rw [hq] at h; simp at h
    | some s1 =>
      rw [hq] at h
      obtain ⟨e1, rfl⟩ := mtT_ext a b s s1 hq
      obtain ⟨e2, rfl⟩ := mtL_ext l m _ r h
      exact ⟨e1 ++ e2, by rw [List.append_assoc]⟩
end
theorem find_left {α : Type} {p : α → Bool} {s : List α} {b : α} (h : s.find? p = some b) (e : List α) : (s ++ e).find? p = some b := by rw [List.find?_append, h]; rfl
theorem findP_self (n : ByteArray) (t : S25) : findP n ⟨n, t⟩ = true := by unfold findP; exact beq_self_eq_true _
theorem findP_eq {n : ByteArray} {b : S59} (h : findP n b = true) : b.f0 = n := by
  unfold findP at h
  exact (bytes_toList _ _).1 (beq_iff_eq.1 h)
theorem find_new {n : ByteArray} {t : S25} {s : List S59} (h : s.find? (findP n) = none) (e : List S59) : (s ++ [(⟨n, t⟩ : S59)] ++ e).find? (findP n) = some ⟨n, t⟩ := by
  rw [List.append_assoc, List.find?_append, h]
  simp [findP_self]
/-! ### sound -/
theorem instT_op (s : List S59) (n : ByteArray) (l : List S25) : instT s ⟨false, n, l⟩ = ⟨false, n, instL s l⟩ := by rw [instT, if_neg (by simp)]
mutual
theorem mtT_inst : ∀ (p t : S25) (s l : List S59), mtT p t s = some l → okT p → ∀ e, instT (l ++ e) p = t
  | ⟨pv, pn, pl⟩, t, s, l, h, hok, e => by
    simp only [okT] at hok
    simp only [mtT] at h
    split at h
    · rename_i hv
      subst hv
      obtain rfl := hok.1 rfl
      split at h
      · rename_i b hf
        split at h
        · rename_i hc
          injection h with h
          subst h
          simp only [instT, if_true, find_left hf e]
          exact cmpT_zero _ _ hc
        · simp at h
      · rename_i hf
        injection h with h
        subst h
        simp only [instT, if_true, find_new hf e]
    · split at h
      · simp at h
      · rename_i hv hbad
        obtain rfl : pv = false := by cases pv <;> simp_all
        obtain ⟨tv, tn, tl⟩ := t
        simp only [not_or] at hbad
        obtain ⟨b1, b2, b3⟩ := hbad
        obtain rfl : tv = false := by cases tv <;> simp_all
        have b2 : tn = pn := Classical.byContradiction b2
        have b3 : tl.length = pl.length := Classical.byContradiction b3
        subst b2
        rw [instT_op, mtL_inst pl tl s l h hok.2 b3.symm e]
theorem mtL_inst : ∀ (l m : List S25) (s r : List S59), mtL l m s = some r → okL l → l.length = m.length → ∀ e, instL (r ++ e) l = m
  | [], [], s, r, h, hok, hl, e => rfl
  | [], _ :: _, s, r, h, hok, hl, e => by simp at hl
  | _ :: _, [], s, r, h, hok, hl, e => by simp at hl
  | a :: l, b :: m, s, r, h, hok, hl, e => by
    simp only [mtL] at h
    simp only [okL] at hok
    cases hq : mtT a b s with
    | none => rw [hq] at h; simp at h
    | some s1 =>
      rw [hq] at h
      obtain ⟨e2, he⟩ := mtL_ext l m _ r h
      have h1 := mtT_inst a b s s1 hq hok.1 (e2 ++ e)
      have h2 := mtL_inst l m s1 r h hok.2 (by simpa using hl) e
      rw [instL, h2, he, List.append_assoc, h1]
end
/-! ### what is found is valid -/
theorem shBL_mem : ∀ (l : List S25) (x : S25), shBL l = true → x ∈ l → shB x = true
  | a :: l, x, h, hx => by
    simp only [shBL, Bool.and_eq_true] at h
    rcases List.mem_cons.1 hx with rfl | hx
    · exact h.1
    · exact shBL_mem l x h.2 hx
theorem dpL_mem : ∀ (l : List S25) (x : S25), x ∈ l → dpT x ≤ dpL l
  | a :: l, x, hx => by
    simp only [dpL]
    rcases List.mem_cons.1 hx with rfl | hx
    · omega
    · have := dpL_mem l x hx; omega
theorem chkB_mk {t : S25} (h1 : shB t = true) (h2 : szT t ≤ 500) (h3 : dpT t ≤ 200) : chkB t = true := by
  unfold chkB
  rw [h1, decide_eq_true h2, decide_eq_true h3]
  rfl
theorem chkB_mem {t x : S25} (h : chkB t = true) (hx : x ∈ t.f2) : chkB x = true := by
  obtain ⟨h1, h2, h3⟩ := chkB_sh h
  rw [shB_eq, Bool.and_eq_true] at h1
  have := szL_mem t.f2 x hx
  have := szT_eq t
  have := dpL_mem t.f2 x hx
  have := dpT_eq t
  exact chkB_mk (shBL_mem _ _ h1.2 hx) (by omega) (by omega)
theorem vldB_snoc {s : List S59} {n : ByteArray} {t : S25} (h : vldB s = true) (hn : varB n = true) (ht : chkB t = true) : vldB (s ++ [⟨n, t⟩]) = true := by
  unfold vldB at h ⊢
  rw [List.all_append, h]
  simp [hn, ht]
mutual
theorem mtT_vld : ∀ (p t : S25) (s l : List S59), mtT p t s = some l → shB p = true → chkB t = true → vldB s = true → vldB l = true
  | ⟨pv, pn, pl⟩, t, s, l, h, hp, ht, hs => by
    simp only [shB, Bool.and_eq_true] at hp
    simp only [mtT] at h
    split at h
    · rename_i hv
      split at h
      · split at h
        · injection h with h; rw [← h]; exact hs
        · simp at h
      · injection h with h
        rw [← h]
        refine vldB_snoc hs ?_ ht
        have hh := hp.1
        unfold headB at hh
        rw [Bool.and_eq_true, if_pos hv, Bool.and_eq_true] at hh
        unfold varB
        rw [hh.1, hh.2.1]
        rfl
    · split at h
      · simp at h
      · exact mtL_vld pl t.f2 s l h hp.2 (fun x hx => chkB_mem ht hx) hs
theorem mtL_vld : ∀ (l m : List S25) (s r : List S59), mtL l m s = some r → shBL l = true → (∀ x, x ∈ m → chkB x = true) → vldB s = true → vldB r = true
  | [], m, s, r, h, hl, hm, hs => by cases m <;> (simp only [mtL, Option.some.injEq] at h; rw [← h]; exact hs)
  | a :: l, [], s, r, h, hl, hm, hs => by simp only [mtL, Option.some.injEq] at h; rw [← h]; exact hs
  | a :: l, b :: m, s, r, h, hl, hm, hs => by
    simp only [mtL] at h
    simp only [shBL, Bool.and_eq_true] at hl
    cases hq : mtT a b s with
    | none => rw [hq] at h; simp at h
    | some s1 =>
      rw [hq] at h
      exact mtL_vld l m s1 r h hl.2 (fun x hx => hm x (List.mem_cons_of_mem _ hx)) (mtT_vld a b s s1 hq hl.1 (hm b (List.mem_cons_self ..)) hs)
end
/-! ### the two laws -/
theorem find_sound {p t : S25} {s l : List S59} {q : Int} (h : matchF p t s = (l, true, q)) : q = 0 ∧ instF l p = (t, 0) ∧ l.take s.length = s ∧ s.length ≤ l.length ∧ vldB l = true ∧ chkB t = true := by
  unfold matchF at h
  split at h
  · rename_i hok
    rw [Bool.and_eq_true, Bool.and_eq_true] at hok
    obtain ⟨⟨hp, ht⟩, hs⟩ := hok
    cases hq : mtT p t s with
    | none => rw [hq] at h; simp at h
    | some l' =>
      rw [hq] at h
      simp only [Prod.mk.injEq, true_and] at h
      obtain ⟨rfl, rfl⟩ := h
      obtain ⟨hsp, hzp, hdp⟩ := chkB_sh hp
      obtain ⟨hst, hzt, hdt⟩ := chkB_sh ht
      have hv := mtT_vld p t s l' hq hsp ht hs
      have hi := mtT_inst p t s l' hq (shB_okT p hsp) []
      rw [List.append_nil] at hi
      obtain ⟨e, rfl⟩ := mtT_ext p t s l' hq
      refine ⟨rfl, ?_, List.take_left, by simp, hv, ht⟩
      unfold instF
      rw [hv, hp, if_pos (show (true && true) = true from rfl), hi, if_pos ⟨hzt, hdt⟩]
  · simp at h
theorem find_none {p t : S25} {s : List S59} (h : (matchF p t s).2.1 = false) : (matchF p t s).1 = [] := by
  unfold matchF at h ⊢
  split
  · rename_i hok
    rw [if_pos hok] at h
    cases hq : mtT p t s with
    | none => rfl
    | some l' => rw [hq] at h; simp at h
  · rfl
/-- s binds as r does. -/
def Cons (r s : List S59) : Prop := ∀ n b, s.find? (findP n) = some b → b.f1 = instT r ⟨true, n, []⟩
mutual
theorem mtT_comp : ∀ (p : S25) (r s : List S59), okT p → Cons r s → ∃ l, mtT p (instT r p) s = some l ∧ Cons r l
  | ⟨pv, pn, pl⟩, r, s, hok, hc => by
    simp only [okT] at hok
    cases pv with
    | true =>
      obtain rfl := hok.1 rfl
      cases hf : s.find? (findP pn) with
      | some b =>
        refine ⟨s, ?_, hc⟩
        simp only [mtT, if_true, hf]
        rw [if_pos]
        rw [hc pn b hf, cmpT_self]
      | none =>
        refine ⟨s ++ [⟨pn, instT r ⟨true, pn, []⟩⟩], ?_, ?_⟩
        · simp only [mtT, if_true, hf]
        · intro n b hb
          rw [List.find?_append] at hb
          cases h2 : s.find? (findP n) with
          | some b2 =>
            rw [h2] at hb
            simp only [Option.some_or, Option.some.injEq] at hb
            rw [← hb]
            exact hc n b2 h2
          | none =>
            rw [h2] at hb
            simp only [Option.none_or] at hb
            obtain ⟨h3, h4⟩ := List.mem_singleton.1 (List.mem_of_find?_eq_some hb), List.find?_some hb
            have h5 := findP_eq h4
            rw [h3] at h5 ⊢
            dsimp only at h5 ⊢
            rw [h5]
    | false =>
      obtain ⟨l, h1, h2⟩ := mtL_comp pl r s hok.2 hc
      refine ⟨l, ?_, h2⟩
      rw [instT_op, mtT, if_neg (by simp), if_neg (by simp [instL_map])]
      exact h1
theorem mtL_comp : ∀ (l : List S25) (r s : List S59), okL l → Cons r s → ∃ e, mtL l (instL r l) s = some e ∧ Cons r e
  | [], r, s, hok, hc => ⟨s, rfl, hc⟩
  | a :: l, r, s, hok, hc => by
    simp only [okL] at hok
    obtain ⟨s1, h1, c1⟩ := mtT_comp a r s hok.1 hc
    obtain ⟨s2, h2, c2⟩ := mtL_comp l r s1 hok.2 c1
    refine ⟨s2, ?_, c2⟩
    simp only [instL, mtL, h1]
    exact h2
end
mutual
theorem shB_inst : ∀ (p : S25) (r : List S59), shB p = true → vldB r = true → shB (instT r p) = true
  | ⟨pv, pn, pl⟩, r, hp, hr => by
    have hp' := hp
    simp only [shB, Bool.and_eq_true] at hp
    cases pv with
    | true =>
      simp only [instT, if_true]
      cases hf : r.find? (findP pn) with
      | some b => exact (chkB_sh (vldB_mem hr (List.mem_of_find?_eq_some hf)).2).1
      | none => exact hp'
    | false =>
      rw [instT_op]
      simp only [shB, Bool.and_eq_true]
      exact ⟨by rw [instL_map, List.length_map]; exact hp.1, shBL_inst pl r hp.2 hr⟩
theorem shBL_inst : ∀ (l : List S25) (r : List S59), shBL l = true → vldB r = true → shBL (instL r l) = true
  | [], r, _, _ => rfl
  | a :: l, r, hl, hr => by
    simp only [shBL, Bool.and_eq_true] at hl
    simp only [instL, shBL, Bool.and_eq_true]
    exact ⟨shB_inst a r hl.1 hr, shBL_inst l r hl.2 hr⟩
end
theorem instF_ok {r : List S59} {p : S25} (h : (instF r p).2 = 0) : vldB r = true ∧ chkB p = true ∧ (instF r p).1 = instT r p ∧ chkB (instT r p) = true := by
  unfold instF at h ⊢
  split at h
  · rename_i hok
    rw [Bool.and_eq_true] at hok
    split at h
    · rename_i hsz
      rw [if_pos (by rw [hok.1, hok.2]; rfl), if_pos hsz]
      exact ⟨hok.1, hok.2, rfl, chkB_mk (shB_inst p r (chkB_sh hok.2).1 hok.1) hsz.1 hsz.2⟩
    · simp at h
  · simp at h
theorem find_complete {r : List S59} {p : S25} (h : (instF r p).2 = 0) : ∃ m, matchF p (instF r p).1 [] = (m, true, 0) ∧ instF m p = ((instF r p).1, 0) := by
  obtain ⟨hr, hp, he, hy⟩ := instF_ok h
  obtain ⟨m, h1, _⟩ := mtT_comp p r [] (shB_okT p (chkB_sh hp).1) (fun n b hb => by simp at hb)
  have hm : matchF p (instF r p).1 [] = (m, true, 0) := by
    unfold matchF
    rw [he, hp, hy, h1]
    rfl
  exact ⟨m, hm, (find_sound hm).2.1⟩
/-! ### valid: within bounds -/
theorem nameB_size {s : ByteArray} (h : nameB s = true) : s.size ≤ 30 := by
  unfold nameB at h
  simp only [Bool.and_eq_true, decide_eq_true_eq] at h
  exact h.1.2
theorem shB_all (t : S25) : shB t = true → allT (fun x => okS x.f1) t := by
  induction t using S_ind with
  | _ t ih =>
    intro h
    rw [shB_eq, Bool.and_eq_true] at h
    rw [allT_eq]
    have hn : nameB t.f1 = true := by
      have hh := h.1
      unfold headB at hh
      rw [Bool.and_eq_true] at hh
      exact hh.1
    refine ⟨by have := nameB_size hn; unfold okS; omega, (allL_mem _ _).2 (fun x hx => ih x hx (shBL_mem _ _ h.2 hx))⟩
theorem chkB_fit {t : S25} (h : chkB t = true) : fit t := by
  obtain ⟨h1, h2, _⟩ := chkB_sh h
  exact ⟨by omega, shB_all t h1⟩
theorem vldB_fit {s : List S59} (h : vldB s = true) (b : S59) (hb : b ∈ s) : fitB b := by
  obtain ⟨h1, h2⟩ := vldB_mem h hb
  unfold varB at h1
  rw [Bool.and_eq_true] at h1
  exact ⟨by have := nameB_size h1.1; unfold okS; omega, chkB_fit h2⟩
end Go.Proofs.Ytgnklkmifcmlhaa.Q
