/- Proved here: what the reference's functions on types answer in the end (Compare, Great, Twin, Of, ValidBinds). Conditions: those that each theorem names. -/
import Derived.Test.YtgnklkmifcmlhaaHOk
import Derived.Test.YtgnklkmifcmlhaaHFind
import Derived.Test.YtgnklkmifcmlhaaQ4
import Derived.Test.YtgnklkmifcmlhaaQ23
import Derived.Test.YtgnklkmifcmlhaaQ1
import Derived.Test.YtgnklkmifcmlhaaQ2
import Derived.Test.YtgnklkmifcmlhaaQ26
import Derived.Test.YtgnklkmifcmlhaaQ25
namespace Go.Proofs.Ytgnklkmifcmlhaa.Q
open Go.RowKit Go.Shelf Go.Proofs.YtgnklkmifcmlhaaW.PrintWords Go.Proofs.YtgnklkmifcmlhaaW.PrintMore
set_option linter.unusedVariables false
set_option linter.unusedSimpArgs false

/-! ### Compare and Same of the reference -/
theorem cmpB_eq : ∀ x y : List UInt8, Lib.compareBytes x y = if x = y then 0 else if Op.bytesLess x y = true then -1 else 1
  | [], [] => by simp [Lib.compareBytes]
  | [], _ :: _ => by simp [Lib.compareBytes, Op.bytesLess]
  | _ :: _, [] => by simp [Lib.compareBytes, Op.bytesLess]
  | a :: x, b :: y => by
    simp only [Lib.compareBytes, Op.bytesLess, cmpB_eq x y]
    by_cases h1 : a < b
    · have hne : ¬ a = b := by rintro rfl; exact absurd h1 (UInt8.lt_irrefl a)
      simp [h1, hne]
    · by_cases h2 : b < a
      · have hne : ¬ a = b := by rintro rfl; exact absurd h2 (UInt8.lt_irrefl a)
        simp [h1, h2, hne]
      · have he : a = b := by
          apply UInt8.le_antisymm
          · exact UInt8.not_lt.1 h2
          · exact UInt8.not_lt.1 h1
        subst he
        simp [h1]
theorem bytes_toList (a b : ByteArray) : a.toList = b.toList ↔ a = b := by
  rw [Go.ByteArray.toList_eq, Go.ByteArray.toList_eq]
  constructor
  · intro h
    cases a; cases b
    simp only at h
    congr 1
    exact Array.toList_inj.1 h
  · rintro rfl; rfl
theorem cmpI_zero (a b : Int) : cmpI a b = 0 ↔ a = b := by
  unfold cmpI
  split
  · omega
  · split <;> omega
theorem refcmp_ev (x : S25) : ∀ y : S25, szT x ≤ 4611686018427387904 → Ev (fun k => sequentref01_Compare.f k x.f0 x.f1 x.f2 y.f0 y.f1 y.f2) (cmpT x y) := by
  induction x using S_ind with
  | _ x ih =>
    intro y hx
    rw [szT_eq] at hx
    have hl := szL_len x.f2
    rw [cmpT_eq]
    unfold headC or3
    refine Ev.succ ?_
    simp only [sequentref01_Compare.f]
    have hb := cmpB_eq x.f1.data.toList y.f1.data.toList
    rw [← Go.ByteArray.toList_eq, ← Go.ByteArray.toList_eq] at hb
    rw [← Go.ByteArray.toList_eq, ← Go.ByteArray.toList_eq]
    refine Ev.ite (fun e => ?_) (fun e => ?_)
    · refine Ev.ite (fun e2 => (Ev.pure _).val ?_) (fun e2 => (Ev.pure _).val ?_)
      · have h1 : y.f0 = false := by cases hy : y.f0 <;> simp_all
        rw [e2, h1]
        simp [rankT, cmpI]
      · rw [Bool.not_eq_true] at e2
        have h1 : y.f0 = true := by cases hy : y.f0 <;> simp_all
        rw [e2, h1]
        simp [rankT, cmpI]
    · have h0 : x.f0 = y.f0 := by cases hy : y.f0 <;> cases hx : x.f0 <;> simp_all
      rw [h0, show cmpI (rankT y.f0) (rankT y.f0) = 0 from (cmpI_zero _ _).2 rfl]
      simp only [ne_eq, not_true_eq_false, if_false]
      rw [hb]
      refine Ev.ite (fun e2 => ?_) (fun e2 => ?_)
      · rw [if_pos e2]
        simp only [not_true_eq_false, if_false]
        refine Ev.ite (fun e3 => ?_) (fun e3 => ?_)
        · rw [(cmpI_zero _ _).2 e3]
          simp only [not_true_eq_false, if_false]
          have hlen : x.f2.length = y.f2.length := by omega
          refine down (fun j => Ev (fun k => sequentref01_Compare.l0 k (j : Int) y.f0 x.f1 x.f2 y.f0 y.f1 y.f2) (cmpL (x.f2.drop j) (y.f2.drop j))) x.f2.length ?_ ?_
          · refine Ev.succ ?_
            simp only [sequentref01_Compare.l0]
            refine Ev.neg (by omega) ((Ev.pure _).val ?_)
            rw [List.drop_length, hlen, List.drop_length]
            rfl
          · intro j hj h
            refine Ev.succ ?_
            simp only [sequentref01_Compare.l0]
            refine Ev.pos (by omega) (Ev.pos (by omega) (Ev.pos (by omega) ?_))
            rw [rdT x.f2 j hj, rdT y.f2 j (by omega)]
            have hm := szL_mem x.f2 _ (List.getElem_mem hj)
            refine Ev.bind (ih _ (List.getElem_mem hj) y.f2[j] (by omega)) ?_
            rw [List.drop_eq_getElem_cons hj, List.drop_eq_getElem_cons (show j < y.f2.length by omega), cmpL, w64s (by omega)]
            refine Ev.ite (fun e4 => ?_) (fun e4 => (Ev.pure _).val ?_)
            · rw [if_neg (by simp [e4])]
              exact h
            · rw [if_pos e4]
        · have hne : ¬ cmpI (x.f2.length : Int) (y.f2.length : Int) = 0 := fun h => e3 ((cmpI_zero _ _).1 h)
          rw [if_pos hne]
          refine Ev.ite (fun e4 => (Ev.pure _).val ?_) (fun e4 => (Ev.pure _).val ?_)
          · unfold cmpI; rw [if_pos e4]
          · unfold cmpI; rw [if_neg e4, if_pos (by omega)]
      · rw [if_neg e2]
        refine Ev.ite (fun e3 => (Ev.pure _).val ?_) (fun e3 => (Ev.pure _).val ?_)
        · rw [if_pos e3]; simp
        · rw [if_neg e3]; simp
mutual
theorem cmpT_self : ∀ x : S25, cmpT x x = 0
  | ⟨v, n, l⟩ => by
    rw [cmpT_eq]
    have h : headC (⟨v, n, l⟩ : S25) ⟨v, n, l⟩ = 0 := by
      unfold headC or3
      rw [(cmpI_zero _ _).2 rfl, (cmpI_zero _ _).2 rfl, cmpB_eq, if_pos rfl]
      simp
    rw [h]
    simp only [ne_eq, not_true_eq_false, if_false]
    exact cmpL_self l
theorem cmpL_self : ∀ l : List S25, cmpL l l = 0
  | [] => rfl
  | a :: l => by simp [cmpL, cmpT_self a, cmpL_self l]
end
theorem same_ev (x y : S25) (hx : szT x ≤ 4611686018427387904) : Ev (fun k => sequentref01_Same.f k x.f0 x.f1 x.f2 y.f0 y.f1 y.f2) (cmpT x y == 0) := by
  simp only [sequentref01_Same.f]
  exact Ev.bind (refcmp_ev x y hx) (Ev.pure _)

/-! ### Great -/
mutual
def cntT : S25 → Int → Nat → Int
  | ⟨_, n, l⟩, left, d => match d with | 0 => 0 | d + 1 => cntL l (left - 1 - (n.size : Int) / 100) d
def cntL : List S25 → Int → Nat → Int
  | [], left, _ => left
  | a :: l, left, d => if left > 0 then cntL l (cntT a left d) d else left
end
mutual
theorem cntT_bd : ∀ (t : S25) (left : Int) (d : Nat), left ≤ 1500 → 0 < left → cntT t left d ≤ 1500 ∧ (0 < cntT t left d → cntT t left d + szT t ≤ left)
  | ⟨v, n, l⟩, left, d, h1, h2 => by
    cases d with
    | zero => simp [cntT]
    | succ d =>
      simp only [cntT, szT]
      have := cntL_bd l (left - 1 - (n.size : Int) / 100) d (by omega)
      omega
theorem cntL_bd : ∀ (l : List S25) (left : Int) (d : Nat), left ≤ 1500 → cntL l left d ≤ 1500 ∧ (0 < cntL l left d → cntL l left d + szL l ≤ left)
  | [], left, d, h1 => by simp [cntL, szL]; omega
  | a :: l, left, d, h1 => by
    simp only [cntL, szL]
    split
    · rename_i h
      have h3 := cntT_bd a left d h1 h
      have h4 := cntL_bd l (cntT a left d) d h3.1
      omega
    · omega
end
mutual
theorem cntT_lo : ∀ (t : S25) (left : Int) (d : Nat), wd t → 0 < left → left ≤ 1500 → -461168601842738790 ≤ cntT t left d
  | ⟨v, n, l⟩, left, d, hf, h1, h2 => by
    cases d with
    | zero => simp [cntT]
    | succ d =>
      simp only [cntT]
      have hn := wd_name hf
      dsimp only at hn
      exact cntL_lo l _ d (fun x hx => wd_mem hf hx) (by omega) (by omega)
theorem cntL_lo : ∀ (l : List S25) (left : Int) (d : Nat), (∀ x, x ∈ l → wd x) → left ≤ 1500 → -461168601842738790 ≤ left → -461168601842738790 ≤ cntL l left d
  | [], left, d, _, _, h => h
  | a :: l, left, d, hf, h1, h => by
    simp only [cntL]
    split
    · rename_i hp
      have h3 := cntT_lo a left d (hf a (List.mem_cons_self ..)) hp h1
      have h4 := (cntT_bd a left d h1 hp).1
      exact cntL_lo l _ d (fun x hx => hf x (List.mem_cons_of_mem _ hx)) h4 h3
    · exact h
end
theorem count_ev (t : S25) : wd t → ∀ (left : Int) (d : Nat), 0 < left → left ≤ 1500 → d ≤ 500 → Ev (fun k => sequentref01_count.f k t.f0 t.f1 t.f2 left (d : Int)) (cntT t left d) := by
  induction t using S_ind with
  | _ t ih =>
    intro hf left d h1 h2 hd
    have hl := wd_len hf
    have hn := wd_name hf
    refine Ev.succ ?_
    simp only [sequentref01_count.f]
    cases d with
    | zero =>
      refine Ev.pos rfl ((Ev.pure _).val ?_)
      cases t; simp [cntT]
    | succ d =>
      refine Ev.neg (by omega) ?_
      rw [w64 (x := left - 1) (by omega) (by omega), w64 (x := (t.f1.size : Int) / 100) (by omega) (by omega), w64 (by omega) (by omega)]
      have hv : cntT t left (d + 1) = cntL t.f2 (left - 1 - (t.f1.size : Int) / 100) d := by cases t; simp [cntT]
      rw [hv]
      have hloop : ∀ (m j : Nat), j + m = t.f2.length → ∀ left : Int, left ≤ 1500 → -461168601842738790 ≤ left → Ev (fun k => sequentref01_count.l0 k left ((d + 1 : Nat) : Int) (j : Int) t.f0 t.f1 t.f2) (cntL (t.f2.drop j) left d) := by
        intro m
        induction m with
        | zero =>
          intro j hj left _ _
          refine Ev.succ ?_
          simp only [sequentref01_count.l0]
          refine Ev.neg (by omega) ((Ev.pure _).val ?_)
          rw [List.drop_of_length_le (by omega)]
          rfl
        | succ m ihm =>
          intro j hj left h3 h4
          have hjl : j < t.f2.length := by omega
          refine Ev.succ ?_
          simp only [sequentref01_count.l0]
          rw [List.drop_eq_getElem_cons hjl, cntL]
          refine Ev.pos (by omega) (Ev.ite (fun e => Ev.pos (by omega) ?_) (fun e => (Ev.pure _).val (by rw [if_neg e])))
          rw [rdT t.f2 j hjl, w64 (x := ((d + 1 : Nat) : Int) - 1) (by omega) (by omega), show ((d + 1 : Nat) : Int) - 1 = (d : Int) by omega, if_pos e]
          have hfx := wd_mem hf (List.getElem_mem hjl)
          refine Ev.bind (ih _ (List.getElem_mem hjl) hfx left d e h3 (by omega)) ?_
          rw [w64s (by omega)]
          exact ihm (j + 1) (by omega) _ (cntT_bd _ left d h3 e).1 (cntT_lo _ left d hfx e h3)
      exact hloop t.f2.length 0 (by omega) _ (by omega) (by omega)
def greatB (t : S25) : Bool := decide (cntT t 1500 500 ≤ 0)
theorem great_ev (t : S25) (hf : wd t) : Ev (fun k => sequentref01_Great.f k t.f0 t.f1 t.f2) (greatB t) := by
  simp only [sequentref01_Great.f]
  exact Ev.bind (count_ev t hf 1500 500 (by omega) (by omega) (by omega)) (Ev.pure _)
theorem greatB_sz {t : S25} (h : greatB t = false) : szT t ≤ 1500 := by
  unfold greatB at h
  have h1 := of_decide_eq_false h
  have h2 := (cntT_bd t 1500 500 (by omega) (by omega)).2 (by omega)
  omega

theorem rdB (l : List S59) (j : Nat) (h : j < l.length) : rd_T59 l (j : Int) = l[j] := by
  unfold rd_T59
  simp only [Int.toNat_natCast]
  rw [List.getD_eq_getElem?_getD, List.getElem?_eq_getElem h]
  rfl
def greatS (s : List S59) : Bool := decide (s.length > 100) || s.any fun b => greatB b.f1 || decide (b.f0.size > 1000)
def wdB (b : S59) : Prop := okS b.f0 ∧ wd b.f1
theorem greats_ev (s : List S59) (hf : ∀ b, b ∈ s → wdB b) : Ev (fun k => sequentref01_GreatBinds.f k s) (greatS s) := by
  simp only [sequentref01_GreatBinds.f]
  unfold greatS
  refine Ev.ite (fun e => (Ev.pure _).val ?_) (fun e => ?_)
  · rw [decide_eq_true (show s.length > 100 by omega)]
    rfl
  · rw [decide_eq_false (show ¬ s.length > 100 by omega), Bool.false_or]
    refine down (fun j => Ev (fun k => sequentref01_GreatBinds.l0 k s (j : Int)) ((s.drop j).any fun b => greatB b.f1 || decide (b.f0.size > 1000))) s.length ?_ ?_
    · refine Ev.succ ?_
      simp only [sequentref01_GreatBinds.l0]
      refine Ev.neg (by omega) ((Ev.pure _).val ?_)
      rw [List.drop_length]
      rfl
    · intro j hj h
      refine Ev.succ ?_
      simp only [sequentref01_GreatBinds.l0]
      refine Ev.pos (by omega) (Ev.pos (by omega) ?_)
      rw [rdB s j hj, List.drop_eq_getElem_cons hj, List.any_cons]
      refine Ev.bind (great_ev _ (hf _ (List.getElem_mem hj)).2) (Ev.ite (fun e2 => (Ev.pure _).val (by simp [e2])) (fun e2 => Ev.ite (fun e3 => (Ev.pure _).val ?_) (fun e3 => ?_)))
      · rw [decide_eq_true (show s[j].f0.size > 1000 by omega)]
        simp
      · rw [Bool.not_eq_true] at e2
        rw [w64s (by omega)]
        refine h.val ?_
        rw [e2, decide_eq_false (show ¬ s[j].f0.size > 1000 by omega)]
        simp
theorem greatS_mem {s : List S59} (h : greatS s = false) : s.length ≤ 100 ∧ ∀ b, b ∈ s → szT b.f1 ≤ 1500 ∧ b.f0.size ≤ 1000 := by
  unfold greatS at h
  rw [Bool.or_eq_false_iff] at h
  refine ⟨by have := of_decide_eq_false h.1; omega, fun b hb => ?_⟩
  have h2 := h.2
  rw [List.any_eq_false] at h2
  have h3 := h2 b hb
  rw [Bool.not_eq_true, Bool.or_eq_false_iff] at h3
  exact ⟨greatB_sz h3.1, by have := of_decide_eq_false h3.2; omega⟩

/-! ### Twin, Inst of the reference -/
theorem take_snoc {α : Type} (l : List α) (j : Nat) (h : j < l.length) : l.take j ++ [l[j]] = l.take (j + 1) := by
  rw [List.take_add_one, List.getElem?_eq_getElem h]
  rfl
theorem reftwin_ev (t : S25) : szT t < 2932031007402 → Ev (fun k => sequentref01_Twin.f k t.f0 t.f1 t.f2) (t.f0, t.f1, t.f2) := by
  induction t using S_ind with
  | _ t ih =>
    intro hb
    rw [szT_eq] at hb
    have hl := szL_len t.f2
    refine Ev.succ ?_
    simp only [sequentref01_Twin.f]
    refine Ev.cong (down (fun j => Ev (fun k => sequentref01_Twin.l0 k (j : Int) t.f0 t.f1 t.f2 t.f0 t.f1 (t.f2.take j)) (t.f0, t.f1, t.f2)) t.f2.length ?_ ?_) (fun k => by simp)
    · refine Ev.succ ?_
      simp only [sequentref01_Twin.l0]
      refine Ev.neg (by omega) ((Ev.pure _).val ?_)
      rw [List.take_length]
    · intro j hj h
      refine Ev.succ ?_
      simp only [sequentref01_Twin.l0]
      refine Ev.pos (by omega) (Ev.pos (by omega) ?_)
      rw [rdT t.f2 j hj]
      have hm := szL_mem t.f2 _ (List.getElem_mem hj)
      refine Ev.bind (ih _ (List.getElem_mem hj) (by omega)) (Ev.pos (by rw [List.length_take]; omega) ?_)
      rw [w64s (by omega), show (⟨t.f2[j].f0, t.f2[j].f1, t.f2[j].f2⟩ : S25) = t.f2[j] by cases t.f2[j]; rfl, take_snoc t.f2 j hj]
      exact h
def ofR (s : List S59) (a : ByteArray) : S25 × Bool := match s.find? (findP a) with | some b => (b.f1, true) | none => (⟨true, a, []⟩, false)
theorem of_ev (s : List S59) (a : ByteArray) (hl : s.length ≤ 4611686018427387904) : Ev (fun k => sequentref01_Of.f k s a) ((ofR s a).1.f0, (ofR s a).1.f1, (ofR s a).1.f2, (ofR s a).2) := by
  simp only [sequentref01_Of.f]
  refine down (fun j => Ev (fun k => sequentref01_Of.l0 k s a (j : Int)) ((ofR (s.drop j) a).1.f0, (ofR (s.drop j) a).1.f1, (ofR (s.drop j) a).1.f2, (ofR (s.drop j) a).2)) s.length ?_ ?_
  · refine Ev.succ ?_
    simp only [sequentref01_Of.l0]
    refine Ev.neg (by omega) ((Ev.pure _).val ?_)
    rw [List.drop_length]
    rfl
  · intro j hj h
    refine Ev.succ ?_
    simp only [sequentref01_Of.l0]
    refine Ev.pos (by omega) (Ev.pos (by omega) ?_)
    rw [rdB s j hj, List.drop_eq_getElem_cons hj]
    refine Ev.ite (fun e => (Ev.pure _).val ?_) (fun e => ?_)
    · have hp : findP a s[j] = true := by unfold findP; rw [e]; exact beq_self_eq_true _
      simp only [ofR, List.find?_cons, hp]
    · have hp : findP a s[j] = false := by unfold findP; exact beq_eq_false_iff_ne.mpr e
      rw [w64s (by omega)]
      refine h.val ?_
      simp only [ofR, List.find?_cons, hp]
theorem validbinds_ev (s : List S59) (hl : s.length ≤ 4611686018427387904) (hf : ∀ b, b ∈ s → fitB b) : Ev (fun k => sequentref01_ValidBinds.f k s) (vldB s) := by
  simp only [sequentref01_ValidBinds.f]
  unfold vldB
  refine down (fun j => Ev (fun k => sequentref01_ValidBinds.l0 k s (j : Int)) ((s.drop j).all fun b => varB b.f0 && chkB b.f1)) s.length ?_ ?_
  · refine Ev.succ ?_
    simp only [sequentref01_ValidBinds.l0]
    refine Ev.neg (by omega) ((Ev.pure _).val ?_)
    rw [List.drop_length]
    rfl
  · intro j hj h
    refine Ev.succ ?_
    simp only [sequentref01_ValidBinds.l0]
    refine Ev.pos (by omega) (Ev.pos (by omega) ?_)
    rw [rdB s j hj, List.drop_eq_getElem_cons hj, List.all_cons]
    have hfj := hf _ (List.getElem_mem hj)
    refine Ev.bind (reftypevar_ev _ hfj.1) (Ev.ite (fun e => Ev.bind (valid_ev _ hfj.2) (Ev.ite (fun e2 => ?_) (fun e2 => (Ev.pure _).val ?_))) (fun e => (Ev.pure _).val ?_))
    · rw [w64s (by omega)]
      exact h.val (by simp [e, e2])
    · rw [Bool.not_eq_true] at e2
      simp [e2]
    · rw [Bool.not_eq_true] at e
      simp [e]
end Go.Proofs.Ytgnklkmifcmlhaa.Q
