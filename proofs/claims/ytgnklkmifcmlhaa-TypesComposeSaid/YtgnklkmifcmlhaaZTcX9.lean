/- Proved here: parts of the proof of a given statement (HRowTypesCompose): contracts of the functions that it reaches, what they answer, and in the last text the statement itself. Conditions: those that each theorem names. -/
import Derived.Test.YtgnklkmifcmlhaaZTcX6
import Derived.Test.YtgnklkmifcmlhaaZTcX8
/- Proved here: the reference's SameBinds answers true for equal substitutions. Conditions: those that each theorem names. -/
namespace Go.Proofs.Ytgnklkmifcmlhaa.Q
open Go.RowKit Go.Shelf Go.Proofs.YtgnklkmifcmlhaaW.PrintWords Go.Proofs.YtgnklkmifcmlhaaW.PrintMore
set_option linter.unusedVariables false
set_option linter.unusedSimpArgs false

theorem samebinds_ev (s : List S59) (hl : s.length ≤ 4611686018427387904) (hs : ∀ b, b ∈ s → szT b.f1 ≤ 4611686018427387904) : Ev (fun k => sequentref01_SameBinds.f k s s) true := by
  simp only [sequentref01_SameBinds.f]
  refine Ev.pos trivial ?_
  refine down (fun j => Ev (fun k => sequentref01_SameBinds.l0 k s s (j : Int)) true) s.length ?_ ?_
  · refine Ev.succ ?_
    simp only [sequentref01_SameBinds.l0]
    exact Ev.neg (by omega) (Ev.pure _)
  · intro j hj h
    refine Ev.succ ?_
    simp only [sequentref01_SameBinds.l0]
    refine Ev.pos (by omega) (Ev.pos (by omega) (Ev.pos (by omega) (Ev.pos trivial ?_)))
    rw [rdB s j hj, w64s (by omega)]
    exact Ev.bind (same_ev _ _ (hs _ (List.getElem_mem hj))) (Ev.pos (by rw [cmpT_self]; rfl) h)
end Go.Proofs.Ytgnklkmifcmlhaa.Q
/- Proved here: what the reference's Great and GreatBinds answer in the end. Conditions: those that each theorem names. -/
namespace Go.Proofs.Ytgnklkmifcmlhaa.Q
open Go.RowKit Go.Shelf Go.Proofs.YtgnklkmifcmlhaaW.PrintWords Go.Proofs.YtgnklkmifcmlhaaW.PrintMore
set_option linter.unusedVariables false
set_option linter.unusedSimpArgs false

/-! ### Great -/
mutual
def cntT : S25 → Int → Nat → Int
  | ⟨_, n, l⟩, left, d => match d with | 0 => 0 | d + 1 => cntL l (left - 1 - (n.size : Int) / 100) d
def cntL : List S25 → Int → Nat → Int
  | [], left, _ => left
  | a :: l, left, d => if left > 0 then cntL l (cntT a left d) d else left
end
mutual
theorem cntT_bd : ∀ (t : S25) (left : Int) (d : Nat), left ≤ 1500 → 0 < left → cntT t left d ≤ 1500 ∧ (0 < cntT t left d → cntT t left d + szT t ≤ left)
  | ⟨v, n, l⟩, left, d, h1, h2 => by
    cases d with
    | zero => simp [cntT]
    | succ d =>
      simp only [cntT, szT]
      have := cntL_bd l (left - 1 - (n.size : Int) / 100) d (by omega)
      omega
theorem cntL_bd : ∀ (l : List S25) (left : Int) (d : Nat), left ≤ 1500 → cntL l left d ≤ 1500 ∧ (0 < cntL l left d → cntL l left d + szL l ≤ left)
  | [], left, d, h1 => by simp [cntL, szL]; omega
  | a :: l, left, d, h1 => by
    simp only [cntL, szL]
    split
    · rename_i h
      have h3 := cntT_bd a left d h1 h
      have h4 := cntL_bd l (cntT a left d) d h3.1
      omega
    · omega
end
mutual
theorem cntT_lo : ∀ (t : S25) (left : Int) (d : Nat), wd t → 0 < left → left ≤ 1500 → -461168601842738790 ≤ cntT t left d
  | ⟨v, n, l⟩, left, d, hf, h1, h2 => by
    cases d with
    | zero => simp [cntT]
    | succ d =>
      simp only [cntT]
      have hn := wd_name hf
      dsimp only at hn
      exact cntL_lo l _ d (fun x hx => wd_mem hf hx) (by omega) (by omega)
theorem cntL_lo : ∀ (l : List S25) (left : Int) (d : Nat), (∀ x, x ∈ l → wd x) → left ≤ 1500 → -461168601842738790 ≤ left → -461168601842738790 ≤ cntL l left d
  | [], left, d, _, _, h => h
  | a :: l, left, d, hf, h1, h => by
    simp only [cntL]
    split
    · rename_i hp
      have h3 := cntT_lo a left d (hf a (List.mem_cons_self ..)) hp h1
      have h4 := (cntT_bd a left d h1 hp).1
      exact cntL_lo l _ d (fun x hx => hf x (List.mem_cons_of_mem _ hx)) h4 h3
    · exact h
end
theorem count_ev (t : S25) : wd t → ∀ (left : Int) (d : Nat), 0 < left → left ≤ 1500 → d ≤ 500 → Ev (fun k => sequentref01_count.f k t.f0 t.f1 t.f2 left (d : Int)) (cntT t left d) := by
  induction t using S_ind with
  | _ t ih =>
    intro hf left d h1 h2 hd
    have hl := wd_len hf
    have hn := wd_name hf
    refine Ev.succ ?_
    simp only [sequentref01_count.f]
    cases d with
    | zero =>
      refine Ev.pos rfl ((Ev.pure _).val ?_)
      cases t; simp [cntT]
    | succ d =>
      refine Ev.neg (by omega) ?_
      rw [w64 (x := left - 1) (by omega) (by omega), w64 (x := (t.f1.size : Int) / 100) (by omega) (by omega), w64 (by omega) (by omega)]
      have hv : cntT t left (d + 1) = cntL t.f2 (left - 1 - (t.f1.size : Int) / 100) d := by cases t; simp [cntT]
      rw [hv]
      have hloop : ∀ (m j : Nat), j + m = t.f2.length → ∀ left : Int, left ≤ 1500 → -461168601842738790 ≤ left → Ev (fun k => sequentref01_count.l0 k left ((d + 1 : Nat) : Int) (j : Int) t.f0 t.f1 t.f2) (cntL (t.f2.drop j) left d) := by
        intro m
        induction m with
        | zero =>
          intro j hj left _ _
          refine Ev.succ ?_
          simp only [sequentref01_count.l0]
          refine Ev.neg (by omega) ((Ev.pure _).val ?_)
          rw [List.drop_of_length_le (by omega)]
          rfl
        | succ m ihm =>
          intro j hj left h3 h4
          have hjl : j < t.f2.length := by omega
          refine Ev.succ ?_
          simp only [sequentref01_count.l0]
          rw [List.drop_eq_getElem_cons hjl, cntL]
          refine Ev.pos (by omega) (Ev.ite (fun e => Ev.pos (by omega) ?_) (fun e => (Ev.pure _).val (by rw [if_neg e])))
          rw [rdT t.f2 j hjl, w64 (x := ((d + 1 : Nat) : Int) - 1) (by omega) (by omega), show ((d + 1 : Nat) : Int) - 1 = (d : Int) by omega, if_pos e]
          have hfx := wd_mem hf (List.getElem_mem hjl)
          refine Ev.bind (ih _ (List.getElem_mem hjl) hfx left d e h3 (by omega)) ?_
          rw [w64s (by omega)]
          exact ihm (j + 1) (by omega) _ (cntT_bd _ left d h3 e).1 (cntT_lo _ left d hfx e h3)
      exact hloop t.f2.length 0 (by omega) _ (by omega) (by omega)
def greatB (t : S25) : Bool := decide (cntT t 1500 500 ≤ 0)
theorem great_ev (t : S25) (hf : wd t) : Ev (fun k => sequentref01_Great.f k t.f0 t.f1 t.f2) (greatB t) := by
  simp only [sequentref01_Great.f]
  exact Ev.bind (count_ev t hf 1500 500 (by omega) (by omega) (by omega)) (Ev.pure _)
theorem greatB_sz {t : S25} (h : greatB t = false) : szT t ≤ 1500 := by
  unfold greatB at h
  have h1 := of_decide_eq_false h
  have h2 := (cntT_bd t 1500 500 (by omega) (by omega)).2 (by omega)
  omega

def greatS (s : List S59) : Bool := decide (s.length > 100) || s.any fun b => greatB b.f1 || decide (b.f0.size > 1000)
def wdB (b : S59) : Prop := okS b.f0 ∧ wd b.f1
theorem greats_ev (s : List S59) (hf : ∀ b, b ∈ s → wdB b) : Ev (fun k => sequentref01_GreatBinds.f k s) (greatS s) := by
  simp only [sequentref01_GreatBinds.f]
  unfold greatS
  refine Ev.ite (fun e => (Ev.pure _).val ?_) (fun e => ?_)
  · rw [decide_eq_true (show s.length > 100 by omega)]
    rfl
  · rw [decide_eq_false (show ¬ s.length > 100 by omega), Bool.false_or]
    refine down (fun j => Ev (fun k => sequentref01_GreatBinds.l0 k s (j : Int)) ((s.drop j).any fun b => greatB b.f1 || decide (b.f0.size > 1000))) s.length ?_ ?_
    · refine Ev.succ ?_
      simp only [sequentref01_GreatBinds.l0]
      refine Ev.neg (by omega) ((Ev.pure _).val ?_)
      rw [List.drop_length]
      rfl
    · intro j hj h
      refine Ev.succ ?_
      simp only [sequentref01_GreatBinds.l0]
      refine Ev.pos (by omega) (Ev.pos (by omega) ?_)
      rw [rdB s j hj, List.drop_eq_getElem_cons hj, List.any_cons]
      refine Ev.bind (great_ev _ (hf _ (List.getElem_mem hj)).2) (Ev.ite (fun e2 => (Ev.pure _).val (by simp [e2])) (fun e2 => Ev.ite (fun e3 => (Ev.pure _).val ?_) (fun e3 => ?_)))
      · rw [decide_eq_true (show s[j].f0.size > 1000 by omega)]
        simp
      · rw [Bool.not_eq_true] at e2
        rw [w64s (by omega)]
        refine h.val ?_
        rw [e2, decide_eq_false (show ¬ s[j].f0.size > 1000 by omega)]
        simp
theorem greatS_mem {s : List S59} (h : greatS s = false) : s.length ≤ 100 ∧ ∀ b, b ∈ s → szT b.f1 ≤ 1500 ∧ b.f0.size ≤ 1000 := by
  unfold greatS at h
  rw [Bool.or_eq_false_iff] at h
  refine ⟨by have := of_decide_eq_false h.1; omega, fun b hb => ?_⟩
  have h2 := h.2
  rw [List.any_eq_false] at h2
  have h3 := h2 b hb
  rw [Bool.not_eq_true, Bool.or_eq_false_iff] at h3
  exact ⟨greatB_sz h3.1, by have := of_decide_eq_false h3.2; omega⟩

end Go.Proofs.Ytgnklkmifcmlhaa.Q
