/- Proved here: parts of the proof of a given statement (HRowTypesTells): contracts of the functions that it reaches, what they answer, and in the last text the statement itself. Conditions: those that each theorem names. -/
import Derived.Test.YtgnklkmifcmlhaaZTtX7
import Derived.Test.YtgnklkmifcmlhaaZTtX6
import Derived.Test.YtgnklkmifcmlhaaZTtX9
import Derived.Test.YtgnklkmifcmlhaaZTtX8
import Derived.Test.YtgnklkmifcmlhaaZTtX3
/- Proved here: what the reference's DestFun, Fun, Bool and Vars answer, over trees that are read. Conditions: those that each theorem names. -/
namespace Go.Proofs.Ytgnklkmifcmlhaa.Q
open Go.RowKit Go.Shelf Go.Proofs.YtgnklkmifcmlhaaW.PrintWords Go.Proofs.YtgnklkmifcmlhaaW.PrintMore
set_option linter.unusedVariables false
set_option linter.unusedSimpArgs false
attribute [local go_sem] Oper.semAt_some

theorem funN_list : funN.toList = [102, 117, 110] := by rw [Go.ByteArray.toList_eq]; rfl
theorem refdest_ev (t : S25) (hs : szT t < 2932031007402) : Ev (fun k => sequentref01_DestFun.f k t.f0 t.f1 t.f2) ((destF t).1.f0, (destF t).1.f1, (destF t).1.f2, (destF t).2.1.f0, (destF t).2.1.f1, (destF t).2.1.f2, (destF t).2.2) := by
  simp only [sequentref01_DestFun.f]
  have hno : ∀ (h : ¬ (t.f0 = false ∧ t.f1 = funN ∧ t.f2.length = 2)), Ev (fun k => sequentref01_DestFun.j0 k true t.f0 t.f1 t.f2) ((destF t).1.f0, (destF t).1.f1, (destF t).1.f2, (destF t).2.1.f0, (destF t).2.1.f1, (destF t).2.1.f2, (destF t).2.2) := fun h => by
    refine Ev.succ ?_
    simp only [sequentref01_DestFun.j0]
    refine Ev.pos (by trivial) ((Ev.pure _).val ?_)
    unfold destF
    rw [if_neg h]
    rfl
  refine Ev.ite (fun e => hno (by rw [e]; simp)) (fun e => Ev.ite (fun e2 => ?_) (fun e2 => hno (fun h => e2 (by rw [h.2.1, funN_list]))))
  have h1 : t.f1 = funN := (bytes_toList _ _).1 (by rw [e2, funN_list])
  by_cases hl : t.f2.length = 2
  · rw [show ((t.f2.length : Int) != 2) = false from bne_eq_false_iff_eq.mpr (by omega)]
    refine Ev.succ ?_
    simp only [sequentref01_DestFun.j0]
    have hd : destF t = (t.f2[0], t.f2[1], true) := by
      unfold destF
      rw [if_pos ⟨by simpa using e, h1, hl⟩, List.getD_eq_getElem?_getD, List.getD_eq_getElem?_getD, List.getElem?_eq_getElem (by omega), List.getElem?_eq_getElem (by omega)]
      rfl
    have r0 := rdT t.f2 0 (by omega)
    have r1 := rdT t.f2 1 (by omega)
    have s0 := szL_mem t.f2 _ (List.getElem_mem (show 0 < t.f2.length by omega))
    have s1 := szL_mem t.f2 _ (List.getElem_mem (show 1 < t.f2.length by omega))
    have s2 := szT_eq' t
    rw [hd]
    refine Ev.neg (by simp) (Ev.pos (by omega) ?_)
    rw [show rd_T25 t.f2 0 = t.f2[0] from r0]
    refine Ev.bind (reftwin_ev t.f2[0] (by omega)) (Ev.pos (by omega) ?_)
    rw [show rd_T25 t.f2 1 = t.f2[1] from r1]
    exact Ev.bind (reftwin_ev t.f2[1] (by omega)) (Ev.pure _)
  · rw [show ((t.f2.length : Int) != 2) = true from bne_iff_ne.mpr (by omega)]
    exact hno (fun h => hl h.2.2)
theorem reffun_ev (x y : S25) (hx : szT x < 2932031007402) (hy : szT y < 2932031007402) : Ev (fun k => sequentref01_Fun.f k x.f0 x.f1 x.f2 y.f0 y.f1 y.f2) (false, funN, [x, y]) := by
  simp only [sequentref01_Fun.f]
  refine Ev.bind (reftwin_ev x hx) (Ev.bind (reftwin_ev y hy) ((Ev.pure _).val ?_))
  cases x; cases y
  rfl
def StrsRes (w : World) (r : List ByteArray × Int) (e : Ending) (w' : World) : Prop := ∃ A2 c2, e = .returned (.tuple #[.slice A2 r.1.length c2, .int .i64 r.2]) ∧ r.1.length ≤ c2 ∧ Kd.C Kd.string w' A2 r.1.length r.1 ∧ Below w.heap.size w w'
set_option maxHeartbeats 2000000 in
set_option maxRecDepth 100000 in
theorem refvars_calls (t : S25) (A : Option Addr) (c : Nat) (w : World) (hA : k25.C w A t.f2.length t.f2) (hc : t.f2.length ≤ c) (hf : fit t) (hs : szT t ≤ 100000) :
    Calls Try.prog 24 #[.agg #[.bool t.f0, .string t.f1, .slice A t.f2.length c]] w (StrsRes w (varsF t)) := by
  obtain ⟨k, hk⟩ := (valid_ev t hf).at
  have hv := fun W (hw : Below w.heap.size w W) => sequentref01_Valid.calls k t.f0 t.f1 A c t.f2 _ W (Kd.C_below hA hw) hc hk
  have hb0 := below_one (w := w) (.cells #[.bool t.f0, .string t.f1, .slice A t.f2.length c] 25)
  have BX := blk_new w (.cells #[.bool t.f0, .string t.f1, .slice A t.f2.length c] 25)
  obtain ⟨x0, x1, x2, x3, x4, x5, x6⟩ := box3s BX
  have hm := fun W (hw : Below w.heap.size w W) => more_calls w (szT t) t A c [] (.slice none 0 0) W (Nat.le_refl _) hA hc hw (Kd.R_nil _ _ _ _ _) (by simp; omega)
  unfold varsF
  clear hk hf hs
  cases hok : chkB t with
  | false =>
    rw [hok] at hv
    clear hA hm hok
    go_enter Try.func24, Try.ntmps24
    go_wp2_with (go_at_call 62; (with_reducible refine (hv _ hb0).mono ?_); rintro e W1 ⟨rfl, hc1⟩; obtain ⟨x0, x1, x2, x3, x4, x5, x6⟩ := box3s (blk_below BX hc1))
    go_ret2
    exact ⟨none, 0, rfl, Nat.le_refl _, ⟨rfl, by simp, fun h => absurd h (by simp)⟩, below_step hb0 hc1⟩
  | true =>
    rw [hok] at hv
    clear hA hok
    go_enter Try.func24, Try.ntmps24
    go_wp2_with (first
      | (go_at_call 70; (with_reducible refine (hm _ hb1).mono ?_); rintro e W2 ⟨v', rfl, hg, hR, _⟩)
      | (go_at_call 62; (with_reducible refine (hv _ hb0).mono ?_); rintro e W1 ⟨rfl, hc1⟩; have hb1 := below_step hb0 hc1; obtain ⟨x0, x1, x2, x3, x4, x5, x6⟩ := box3s (blk_below BX hc1)))
    go_ret2
    obtain ⟨A2, c2, rfl, hl, hC⟩ := Kd.R_reads hR
    exact ⟨A2, c2, rfl, hl, hC, hb1.grown hg hb1.size (fun k hk => by simp [Value.ownBlock] at hk)⟩
end Go.Proofs.Ytgnklkmifcmlhaa.Q
