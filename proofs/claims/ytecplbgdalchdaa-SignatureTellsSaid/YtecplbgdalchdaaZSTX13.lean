/- Proved here: parts of the proof of a given statement (HRowSignatureTells): contracts of the functions that it reaches, what they answer, and in the last text the statement itself. Conditions: those that each theorem names. -/
import Derived.Test.YtecplbgdalchdaaZSTX7
import Derived.Test.YtecplbgdalchdaaZSTX12
import Derived.Test.YtecplbgdalchdaaZSTX3
import Derived.Test.YtecplbgdalchdaaZSTX4
/- Proved here: what the reference's Compare and Same answer in the end. Conditions: those that each theorem names. -/
namespace Go.Proofs.Ytecplbgdalchdaa.Q
open Go.RowKit Go.Shelf Go.Proofs.YtecplbgdalchdaaW.PrintWords Go.Proofs.YtecplbgdalchdaaW.PrintMore
set_option linter.unusedVariables false
set_option linter.unusedSimpArgs false

/-! ### Compare and Same of the reference -/
theorem cmpB_eq : ∀ x y : List UInt8, Lib.compareBytes x y = if x = y then 0 else if Op.bytesLess x y = true then -1 else 1
  | [], [] => by simp [Lib.compareBytes]
  | [], _ :: _ => by simp [Lib.compareBytes, Op.bytesLess]
  | _ :: _, [] => by simp [Lib.compareBytes, Op.bytesLess]
  | a :: x, b :: y => by
    simp only [Lib.compareBytes, Op.bytesLess, cmpB_eq x y]
    by_cases h1 : a < b
    · have hne : ¬ a = b := by rintro rfl; exact absurd h1 (UInt8.lt_irrefl a)
      simp [h1, hne]
    · by_cases h2 : b < a
      · have hne : ¬ a = b := by rintro rfl; exact absurd h2 (UInt8.lt_irrefl a)
        simp [h1, h2, hne]
      · have he : a = b := by
          apply UInt8.le_antisymm
          · exact UInt8.not_lt.1 h2
          · exact UInt8.not_lt.1 h1
        subst he
        simp [h1]
theorem bytes_toList (a b : ByteArray) : a.toList = b.toList ↔ a = b := by
  rw [Go.ByteArray.toList_eq, Go.ByteArray.toList_eq]
  constructor
  · intro h
    cases a; cases b
    simp only at h
    congr 1
    exact Array.toList_inj.1 h
  · rintro rfl; rfl
theorem cmpI_zero (a b : Int) : cmpI a b = 0 ↔ a = b := by
  unfold cmpI
  split
  · omega
  · split <;> omega
theorem refcmp_ev (x : S24) : ∀ y : S24, szT x ≤ 4611686018427387904 → Ev (fun k => sequentref01_Compare.f k x.f0 x.f1 x.f2 y.f0 y.f1 y.f2) (cmpT x y) := by
  induction x using S_ind with
  | _ x ih =>
    intro y hx
    rw [szT_eq] at hx
    have hl := szL_len x.f2
    rw [cmpT_eq]
    unfold headC or3
    refine Ev.succ ?_
    simp only [sequentref01_Compare.f]
    have hb := cmpB_eq x.f1.data.toList y.f1.data.toList
    rw [← Go.ByteArray.toList_eq, ← Go.ByteArray.toList_eq] at hb
    rw [← Go.ByteArray.toList_eq, ← Go.ByteArray.toList_eq]
    refine Ev.ite (fun e => ?_) (fun e => ?_)
    · refine Ev.ite (fun e2 => (Ev.pure _).val ?_) (fun e2 => (Ev.pure _).val ?_)
      · have h1 : y.f0 = false := by cases hy : y.f0 <;> simp_all
        rw [e2, h1]
        simp [rankT, cmpI]
      · rw [Bool.not_eq_true] at e2
        have h1 : y.f0 = true := by cases hy : y.f0 <;> simp_all
        rw [e2, h1]
        simp [rankT, cmpI]
    · have h0 : x.f0 = y.f0 := by cases hy : y.f0 <;> cases hx : x.f0 <;> simp_all
      rw [h0, show cmpI (rankT y.f0) (rankT y.f0) = 0 from (cmpI_zero _ _).2 rfl]
      simp only [ne_eq, not_true_eq_false, if_false]
      rw [hb]
      refine Ev.ite (fun e2 => ?_) (fun e2 => ?_)
      · rw [if_pos e2]
        simp only [not_true_eq_false, if_false]
        refine Ev.ite (fun e3 => ?_) (fun e3 => ?_)
        · rw [(cmpI_zero _ _).2 e3]
          simp only [not_true_eq_false, if_false]
          have hlen : x.f2.length = y.f2.length := by omega
          refine down (fun j => Ev (fun k => sequentref01_Compare.l0 k (j : Int) y.f0 x.f1 x.f2 y.f0 y.f1 y.f2) (cmpL (x.f2.drop j) (y.f2.drop j))) x.f2.length ?_ ?_
          · refine Ev.succ ?_
            simp only [sequentref01_Compare.l0]
            refine Ev.neg (by omega) ((Ev.pure _).val ?_)
            rw [List.drop_length, hlen, List.drop_length]
            rfl
          · intro j hj h
            refine Ev.succ ?_
            simp only [sequentref01_Compare.l0]
            refine Ev.pos (by omega) (Ev.pos (by omega) (Ev.pos (by omega) ?_))
            rw [rdT x.f2 j hj, rdT y.f2 j (by omega)]
            have hm := szL_mem x.f2 _ (List.getElem_mem hj)
            refine Ev.bind (ih _ (List.getElem_mem hj) y.f2[j] (by omega)) ?_
            rw [List.drop_eq_getElem_cons hj, List.drop_eq_getElem_cons (show j < y.f2.length by omega), cmpL, w64s (by omega)]
            refine Ev.ite (fun e4 => ?_) (fun e4 => (Ev.pure _).val ?_)
            · rw [if_neg (by simp [e4])]
              exact h
            · rw [if_pos e4]
        · have hne : ¬ cmpI (x.f2.length : Int) (y.f2.length : Int) = 0 := fun h => e3 ((cmpI_zero _ _).1 h)
          rw [if_pos hne]
          refine Ev.ite (fun e4 => (Ev.pure _).val ?_) (fun e4 => (Ev.pure _).val ?_)
          · unfold cmpI; rw [if_pos e4]
          · unfold cmpI; rw [if_neg e4, if_pos (by omega)]
      · rw [if_neg e2]
        refine Ev.ite (fun e3 => (Ev.pure _).val ?_) (fun e3 => (Ev.pure _).val ?_)
        · rw [if_pos e3]; simp
        · rw [if_neg e3]; simp
mutual
theorem cmpT_self : ∀ x : S24, cmpT x x = 0
  | ⟨v, n, l⟩ => by
    rw [cmpT_eq]
    have h : headC (⟨v, n, l⟩ : S24) ⟨v, n, l⟩ = 0 := by
      unfold headC or3
      rw [(cmpI_zero _ _).2 rfl, (cmpI_zero _ _).2 rfl, cmpB_eq, if_pos rfl]
      simp
    rw [h]
    simp only [ne_eq, not_true_eq_false, if_false]
    exact cmpL_self l
theorem cmpL_self : ∀ l : List S24, cmpL l l = 0
  | [] => rfl
  | a :: l => by simp [cmpL, cmpT_self a, cmpL_self l]
end
theorem same_ev (x y : S24) (hx : szT x ≤ 4611686018427387904) : Ev (fun k => sequentref01_Same.f k x.f0 x.f1 x.f2 y.f0 y.f1 y.f2) (cmpT x y == 0) := by
  simp only [sequentref01_Same.f]
  exact Ev.bind (refcmp_ev x y hx) (Ev.pure _)

end Go.Proofs.Ytecplbgdalchdaa.Q
/- Proved here: what the reference's Great and GreatBinds answer in the end. Conditions: those that each theorem names. -/
namespace Go.Proofs.Ytecplbgdalchdaa.Q
open Go.RowKit Go.Shelf Go.Proofs.YtecplbgdalchdaaW.PrintWords Go.Proofs.YtecplbgdalchdaaW.PrintMore
set_option linter.unusedVariables false
set_option linter.unusedSimpArgs false

/-! ### Great -/
mutual
def cntT : S24 → Int → Nat → Int
  | ⟨_, n, l⟩, left, d => match d with | 0 => 0 | d + 1 => cntL l (left - 1 - (n.size : Int) / 100) d
def cntL : List S24 → Int → Nat → Int
  | [], left, _ => left
  | a :: l, left, d => if left > 0 then cntL l (cntT a left d) d else left
end
mutual
theorem cntT_bd : ∀ (t : S24) (left : Int) (d : Nat), left ≤ 1500 → 0 < left → cntT t left d ≤ 1500 ∧ (0 < cntT t left d → cntT t left d + szT t ≤ left)
  | ⟨v, n, l⟩, left, d, h1, h2 => by
    cases d with
    | zero => simp [cntT]
    | succ d =>
      simp only [cntT, szT]
      have := cntL_bd l (left - 1 - (n.size : Int) / 100) d (by omega)
      omega
theorem cntL_bd : ∀ (l : List S24) (left : Int) (d : Nat), left ≤ 1500 → cntL l left d ≤ 1500 ∧ (0 < cntL l left d → cntL l left d + szL l ≤ left)
  | [], left, d, h1 => by simp [cntL, szL]; omega
  | a :: l, left, d, h1 => by
    simp only [cntL, szL]
    split
    · rename_i h
      have h3 := cntT_bd a left d h1 h
      have h4 := cntL_bd l (cntT a left d) d h3.1
      omega
    · omega
end
mutual
theorem cntT_lo : ∀ (t : S24) (left : Int) (d : Nat), wd t → 0 < left → left ≤ 1500 → -461168601842738790 ≤ cntT t left d
  | ⟨v, n, l⟩, left, d, hf, h1, h2 => by
    cases d with
    | zero => simp [cntT]
    | succ d =>
      simp only [cntT]
      have hn := wd_name hf
      dsimp only at hn
      exact cntL_lo l _ d (fun x hx => wd_mem hf hx) (by omega) (by omega)
theorem cntL_lo : ∀ (l : List S24) (left : Int) (d : Nat), (∀ x, x ∈ l → wd x) → left ≤ 1500 → -461168601842738790 ≤ left → -461168601842738790 ≤ cntL l left d
  | [], left, d, _, _, h => h
  | a :: l, left, d, hf, h1, h => by
    simp only [cntL]
    split
    · rename_i hp
      have h3 := cntT_lo a left d (hf a (List.mem_cons_self ..)) hp h1
      have h4 := (cntT_bd a left d h1 hp).1
      exact cntL_lo l _ d (fun x hx => hf x (List.mem_cons_of_mem _ hx)) h4 h3
    · exact h
end
theorem count_ev (t : S24) : wd t → ∀ (left : Int) (d : Nat), 0 < left → left ≤ 1500 → d ≤ 500 → Ev (fun k => sequentref01_count.f k t.f0 t.f1 t.f2 left (d : Int)) (cntT t left d) := by
  induction t using S_ind with
  | _ t ih =>
    intro hf left d h1 h2 hd
    have hl := wd_len hf
    have hn := wd_name hf
    refine Ev.succ ?_
    simp only [sequentref01_count.f]
    cases d with
    | zero =>
      refine Ev.pos rfl ((Ev.pure _).val ?_)
      cases t; simp [cntT]
    | succ d =>
      refine Ev.neg (by omega) ?_
      rw [w64 (x := left - 1) (by omega) (by omega), w64 (x := (t.f1.size : Int) / 100) (by omega) (by omega), w64 (by omega) (by omega)]
      have hv : cntT t left (d + 1) = cntL t.f2 (left - 1 - (t.f1.size : Int) / 100) d := by cases t; simp [cntT]
      rw [hv]
      have hloop : ∀ (m j : Nat), j + m = t.f2.length → ∀ left : Int, left ≤ 1500 → -461168601842738790 ≤ left → Ev (fun k => sequentref01_count.l0 k left ((d + 1 : Nat) : Int) (j : Int) t.f0 t.f1 t.f2) (cntL (t.f2.drop j) left d) := by
        intro m
        induction m with
        | zero =>
          intro j hj left _ _
          refine Ev.succ ?_
          simp only [sequentref01_count.l0]
          refine Ev.neg (by omega) ((Ev.pure _).val ?_)
          rw [List.drop_of_length_le (by omega)]
          rfl
        | succ m ihm =>
          intro j hj left h3 h4
          have hjl : j < t.f2.length := by omega
          refine Ev.succ ?_
          simp only [sequentref01_count.l0]
          rw [List.drop_eq_getElem_cons hjl, cntL]
          refine Ev.pos (by omega) (Ev.ite (fun e => Ev.pos (by omega) ?_) (fun e => (Ev.pure _).val (by rw [if_neg e])))
          rw [rdT t.f2 j hjl, w64 (x := ((d + 1 : Nat) : Int) - 1) (by omega) (by omega), show ((d + 1 : Nat) : Int) - 1 = (d : Int) by omega, if_pos e]
          have hfx := wd_mem hf (List.getElem_mem hjl)
          refine Ev.bind (ih _ (List.getElem_mem hjl) hfx left d e h3 (by omega)) ?_
          rw [w64s (by omega)]
          exact ihm (j + 1) (by omega) _ (cntT_bd _ left d h3 e).1 (cntT_lo _ left d hfx e h3)
      exact hloop t.f2.length 0 (by omega) _ (by omega) (by omega)
def greatB (t : S24) : Bool := decide (cntT t 1500 500 ≤ 0)
theorem great_ev (t : S24) (hf : wd t) : Ev (fun k => sequentref01_Great.f k t.f0 t.f1 t.f2) (greatB t) := by
  simp only [sequentref01_Great.f]
  exact Ev.bind (count_ev t hf 1500 500 (by omega) (by omega) (by omega)) (Ev.pure _)
theorem greatB_sz {t : S24} (h : greatB t = false) : szT t ≤ 1500 := by
  unfold greatB at h
  have h1 := of_decide_eq_false h
  have h2 := (cntT_bd t 1500 500 (by omega) (by omega)).2 (by omega)
  omega

end Go.Proofs.Ytecplbgdalchdaa.Q
/- Proved here: what the reference's Twin, Of and ValidBinds answer in the end. Conditions: those that each theorem names. -/
namespace Go.Proofs.Ytecplbgdalchdaa.Q
open Go.RowKit Go.Shelf Go.Proofs.YtecplbgdalchdaaW.PrintWords Go.Proofs.YtecplbgdalchdaaW.PrintMore
set_option linter.unusedVariables false
set_option linter.unusedSimpArgs false

/-! ### Twin, Inst of the reference -/
theorem take_snoc {α : Type} (l : List α) (j : Nat) (h : j < l.length) : l.take j ++ [l[j]] = l.take (j + 1) := by
  rw [List.take_add_one, List.getElem?_eq_getElem h]
  rfl
theorem reftwin_ev (t : S24) : szT t < 2932031007402 → Ev (fun k => sequentref01_Twin.f k t.f0 t.f1 t.f2) (t.f0, t.f1, t.f2) := by
  induction t using S_ind with
  | _ t ih =>
    intro hb
    rw [szT_eq] at hb
    have hl := szL_len t.f2
    refine Ev.succ ?_
    simp only [sequentref01_Twin.f]
    refine Ev.cong (down (fun j => Ev (fun k => sequentref01_Twin.l0 k (j : Int) t.f0 t.f1 t.f2 t.f0 t.f1 (t.f2.take j)) (t.f0, t.f1, t.f2)) t.f2.length ?_ ?_) (fun k => by simp)
    · refine Ev.succ ?_
      simp only [sequentref01_Twin.l0]
      refine Ev.neg (by omega) ((Ev.pure _).val ?_)
      rw [List.take_length]
    · intro j hj h
      refine Ev.succ ?_
      simp only [sequentref01_Twin.l0]
      refine Ev.pos (by omega) (Ev.pos (by omega) ?_)
      rw [rdT t.f2 j hj]
      have hm := szL_mem t.f2 _ (List.getElem_mem hj)
      refine Ev.bind (ih _ (List.getElem_mem hj) (by omega)) (Ev.pos (by rw [List.length_take]; omega) ?_)
      rw [w64s (by omega), show (⟨t.f2[j].f0, t.f2[j].f1, t.f2[j].f2⟩ : S24) = t.f2[j] by cases t.f2[j]; rfl, take_snoc t.f2 j hj]
      exact h
end Go.Proofs.Ytecplbgdalchdaa.Q
/- Proved here: types that compare as 0 are equal. Conditions: those that each theorem names. -/
namespace Go.Proofs.Ytecplbgdalchdaa.Q
open Go.RowKit Go.Proofs.YtecplbgdalchdaaW.PrintWords Go.Proofs.YtecplbgdalchdaaW.PrintMore
set_option linter.unusedVariables false
set_option linter.unusedSimpArgs false

/-! ### compared 0: equal -/
theorem lx_zero {a b : Int} : lx a b = 0 ↔ a = 0 ∧ b = 0 := by
  unfold lx
  split <;> omega
theorem headC_zero {x y : S24} (h : headC x y = 0) : x.f0 = y.f0 ∧ x.f1 = y.f1 := by
  unfold headC at h
  rw [or3_lx, lx_zero, lx_zero, cmpI_zero, cmpI_zero] at h
  obtain ⟨e1, e2, _⟩ := h
  refine ⟨?_, ?_⟩
  · cases hx : x.f0 <;> cases hy : y.f0 <;> simp [hx, hy, rankT] at e1 ⊢
  · rw [cmpB_eq] at e2
    split at e2
    · rename_i he
      rw [← Go.ByteArray.toList_eq, ← Go.ByteArray.toList_eq, bytes_toList] at he
      exact he
    · split at e2 <;> simp at e2
mutual
theorem cmpT_zero : ∀ x y : S24, cmpT x y = 0 → x = y
  | ⟨a, b, l⟩, ⟨a', b', l'⟩, h => by
    rw [cmpT_lx, lx_zero] at h
    obtain ⟨h1, h2⟩ := h
    obtain ⟨e1, e2⟩ := headC_zero h1
    have e3 := cmpL_zero l l' h2
    dsimp only at e1 e2
    rw [e1, e2, e3]
theorem cmpL_zero : ∀ l m : List S24, cmpL l m = 0 → l = m
  | [], [], _ => rfl
  | [], _ :: _, h => by simp [cmpL] at h
  | _ :: _, [], h => by simp [cmpL] at h
  | a :: l, b :: m, h => by
    rw [cmpL_lx, lx_zero] at h
    rw [cmpT_zero a b h.1, cmpL_zero l m h.2]
end
theorem cmpT_iff (x y : S24) : cmpT x y = 0 ↔ x = y := ⟨cmpT_zero x y, fun h => by rw [h, cmpT_self]⟩
end Go.Proofs.Ytecplbgdalchdaa.Q
-- written by a program of this session (wip/tools/myprint.py) out of the translation
namespace Go.Proofs.Ytecplbgdalchdaa.Q
open Go.RowKit Go.Proofs.YtecplbgdalchdaaW.PrintWords Go.Proofs.YtecplbgdalchdaaW.PrintLast Go.Proofs.YtecplbgdalchdaaW.PrintMore
attribute [local go_sem] max2_int min2_int max_two min_two max_three min_three max_four min_four   -- for this text's walks alone
set_option linter.unusedVariables false
set_option linter.unusedSimpArgs false

/-! ### signature_Initial: function 82 -/
def signature_Initial.f  : Option ((List (S106)) × (List (S108))) := (types_Bool.f).bind fun bt1089 => ((types_Fun.f true (⟨#[39, 97]⟩ : ByteArray) ([] : List (S24)) bt1089.1 bt1089.2.1 bt1089.2.2).bind fun bt1094 => ((types_Fun.f true (⟨#[39, 97]⟩ : ByteArray) ([] : List (S24)) bt1094.1 bt1094.2.1 bt1094.2.2).bind fun bt1099 => (some ((([(⟨(⟨#[98, 111, 111, 108]⟩ : ByteArray), 0⟩ : S106), (⟨(⟨#[102, 117, 110]⟩ : ByteArray), 2⟩ : S106)] : List (S106))), (([(⟨(⟨#[61]⟩ : ByteArray), (⟨bt1099.1, bt1099.2.1, bt1099.2.2⟩ : S24)⟩ : S108)] : List (S108)))))))
set_option maxHeartbeats 8000000 in
set_option maxRecDepth 100000 in
theorem signature_Initial.calls  (r1 : List (S106)) (r2 : List (S108)) (w : World) (h : signature_Initial.f  = some (r1, r2)) :
 Calls Try.prog 82 #[] w fun e w' => ∃ v0_ v1_ : Value, e = .returned (.agg #[v0_, v1_]) ∧ Kd.R k106 106 w' w.heap.size (fun k_ => (w.heap.size ≤ k_)) v0_ r1 ∧ Kd.N k108 108 w' w.heap.size (fun k_ => (w.heap.size ≤ k_) ∧ some k_ ≠ (v0_ : Value).ownBlock) v1_ r2 ∧ Below w.heap.size w w' := by
 have hu94 := Try.underlying94
 have hu24 := Try.underlying24
 have hu106 := Try.underlying106
 have hu108 := Try.underlying108
 have HB := Aside0.mk (Below.refl w.heap.size w)
 have H : ((types_Bool.f).bind fun bt1089 => ((types_Fun.f true (⟨#[39, 97]⟩ : ByteArray) ([] : List (S24)) bt1089.1 bt1089.2.1 bt1089.2.2).bind fun bt1094 => ((types_Fun.f true (⟨#[39, 97]⟩ : ByteArray) ([] : List (S24)) bt1094.1 bt1094.2.1 bt1094.2.2).bind fun bt1099 => (some ((([(⟨(⟨#[98, 111, 111, 108]⟩ : ByteArray), 0⟩ : S106), (⟨(⟨#[102, 117, 110]⟩ : ByteArray), 2⟩ : S106)] : List (S106))), (([(⟨(⟨#[61]⟩ : ByteArray), (⟨bt1099.1, bt1099.2.1, bt1099.2.2⟩ : S24)⟩ : S108)] : List (S108)))))))) = some (r1, r2) := h
 clear h
 replace H := Option.bind_eq_some_iff.mp H
 obtain ⟨⟨t1089, t1090, t1091⟩, A10, H⟩ := H
 replace H : ((types_Fun.f true (⟨#[39, 97]⟩ : ByteArray) ([] : List (S24)) t1089 t1090 t1091).bind fun bt1094 => ((types_Fun.f true (⟨#[39, 97]⟩ : ByteArray) ([] : List (S24)) bt1094.1 bt1094.2.1 bt1094.2.2).bind fun bt1099 => (some ((([(⟨(⟨#[98, 111, 111, 108]⟩ : ByteArray), 0⟩ : S106), (⟨(⟨#[102, 117, 110]⟩ : ByteArray), 2⟩ : S106)] : List (S106))), (([(⟨(⟨#[61]⟩ : ByteArray), (⟨bt1099.1, bt1099.2.1, bt1099.2.2⟩ : S24)⟩ : S108)] : List (S108))))))) = some (r1, r2) := H
 have A1 := Aside0.mk A10
 clear A10
 replace H := Option.bind_eq_some_iff.mp H
 obtain ⟨⟨t1094, t1095, t1096⟩, A20, H⟩ := H
 replace H : ((types_Fun.f true (⟨#[39, 97]⟩ : ByteArray) ([] : List (S24)) t1094 t1095 t1096).bind fun bt1099 => (some ((([(⟨(⟨#[98, 111, 111, 108]⟩ : ByteArray), 0⟩ : S106), (⟨(⟨#[102, 117, 110]⟩ : ByteArray), 2⟩ : S106)] : List (S106))), (([(⟨(⟨#[61]⟩ : ByteArray), (⟨bt1099.1, bt1099.2.1, bt1099.2.2⟩ : S24)⟩ : S108)] : List (S108)))))) = some (r1, r2) := H
 have A2 := Aside0.mk A20
 clear A20
 replace H := Option.bind_eq_some_iff.mp H
 obtain ⟨⟨t1099, t1100, t1101⟩, A30, H⟩ := H
 replace H : (some ((([(⟨(⟨#[98, 111, 111, 108]⟩ : ByteArray), 0⟩ : S106), (⟨(⟨#[102, 117, 110]⟩ : ByteArray), 2⟩ : S106)] : List (S106))), (([(⟨(⟨#[61]⟩ : ByteArray), (⟨t1099, t1100, t1101⟩ : S24)⟩ : S108)] : List (S108))))) = some (r1, r2) := H
 have A3 := Aside0.mk A30
 clear A30
 obtain ⟨y1105, hy1105⟩ : ∃ y_ : List (S106), y_ = (([(⟨(⟨#[98, 111, 111, 108]⟩ : ByteArray), 0⟩ : S106), (⟨(⟨#[102, 117, 110]⟩ : ByteArray), 2⟩ : S106)] : List (S106))) := ⟨_, rfl⟩
 replace H : (some (y1105, (([(⟨(⟨#[61]⟩ : ByteArray), (⟨t1099, t1100, t1101⟩ : S24)⟩ : S108)] : List (S108))))) = some (r1, r2) := by first | (rw [hy1105]; with_reducible exact H) | (have H2_ := (Option.bind_some _ _).symm.trans H; rw [hy1105]; with_reducible exact H2_) | (have H2_ := (Option.bind_some _ _).symm.trans H; with_reducible exact H2_) | with_reducible exact H | (rw [hy1105]; exact H) | exact H
 have Ny1105 := Aside0.mk hy1105
 clear hy1105
 obtain ⟨y1108, hy1108⟩ : ∃ y_ : List (S108), y_ = (([(⟨(⟨#[61]⟩ : ByteArray), (⟨t1099, t1100, t1101⟩ : S24)⟩ : S108)] : List (S108))) := ⟨_, rfl⟩
 replace H : (some (y1105, y1108)) = some (r1, r2) := by first | (rw [hy1108]; with_reducible exact H) | (have H2_ := (Option.bind_some _ _).symm.trans H; rw [hy1108]; with_reducible exact H2_) | (have H2_ := (Option.bind_some _ _).symm.trans H; with_reducible exact H2_) | with_reducible exact H | (rw [hy1108]; exact H) | exact H
 have Ny1108 := Aside0.mk hy1108
 clear hy1108
 simp only [Option.some.injEq, Prod.mk.injEq] at H
 obtain ⟨rfl, rfl⟩ := H
 go_enter Try.func82, Try.ntmps82
 try go_wp2_with (first | ((with_reducible refine gate_dst (N := 0) rfl ?_); refine box_event ?hg (N := 0) ?hd (cs := #[.slice none 0 0, .slice none 0 0]) (t := 94) ?hr ?_; (case hd => rfl); (case hg => rfl); (case hr => first | (go_simp; done) | (go_simp; rfl)); intro gb1087 hg w4 hbox hb; have n0_ := Aside0.mk (below_step bel_ hb); have n1_ := Aside0.mk (hbox); have n2_ := Aside0.mk ((by rw [hg]; exact (below_size bel_) : w.heap.size ≤ gb1087)); have n3_ := Aside0.mk ((by rw [hg]; exact (below_size bel_) : w.heap.size ≤ gb1087)); clear HB; have HB := n0_; have BK1087 := n1_; have GW1087 := n2_; have GE1087 := n3_; clear n0_ n1_ n2_ n3_; clear hb hbox hg) | ((with_reducible refine gate_dst (N := 1) rfl ?_); refine box_event ?hg (N := 1) ?hd (cs := #[.bool false, .string (⟨#[]⟩ : ByteArray), .slice none 0 0]) (t := 24) ?hr ?_; (case hd => rfl); (case hg => rfl); (case hr => first | (go_simp; done) | (go_simp; rfl)); intro gb1088 hg w5 hbox hb; have n0_ := Aside0.mk (blk_below (g := gb1087) (o := .cells #[.slice none 0 0, .slice none 0 0] 94 (0, 0)) (bk_ BK1087) hb); have n1_ := Aside0.mk (below_step bel_ hb); have n2_ := Aside0.mk (hbox); have n3_ := Aside0.mk ((by rw [hg]; exact (below_size bel_) : w.heap.size ≤ gb1088)); have n4_ := Aside0.mk ((by rw [hg]; exact (below_size bel_) : w.heap.size ≤ gb1088)); have n5_ := Aside0.mk ((by rw [hg]; exact Nat.ne_of_lt (blk_lt (g := gb1087) (o := .cells #[.slice none 0 0, .slice none 0 0] 94 (0, 0)) (bk_ BK1087)) : gb1087 ≠ gb1088)); have n6_ := Aside0.mk ((by rw [hg]; exact Nat.ne_of_gt (blk_lt (g := gb1087) (o := .cells #[.slice none 0 0, .slice none 0 0] 94 (0, 0)) (bk_ BK1087)) : gb1088 ≠ gb1087)); clear BK1087; clear HB; have BK1087 := n0_; have HB := n1_; have BK1088 := n2_; have GW1088 := n3_; have GE1088 := n4_; have NB1087_1088 := n5_; have NB1088_1087 := n6_; clear n0_ n1_ n2_ n3_ n4_ n5_ n6_; clear hb hbox hg; have hnb6 := NB1088_1087.out; have hnc6 := NB1087_1088.out; have hcz7_0 : w5.cell? ⟨gb1088, 0, none⟩ = some (.bool false) := (blk_cell BK1088.out 0).trans rfl; have hcz7_1 : w5.cell? ⟨gb1088, 1, none⟩ = some (.string (⟨#[]⟩ : ByteArray)) := (blk_cell BK1088.out 1).trans rfl; have hcz7_2 : w5.cell? ⟨gb1088, 2, none⟩ = some (.slice none 0 0) := (blk_cell BK1088.out 2).trans rfl; have hfz7_0 := blk_frozen BK1088.out 0; have hfz7_1 := blk_frozen BK1088.out 1; have hfz7_2 := blk_frozen BK1088.out 2))
 have n0_ : Aside0 ((((w5.setCell ⟨gb1088, 0, none⟩ (.bool true)).setCell ⟨gb1088, 1, none⟩ (.string (⟨#[39, 97]⟩ : ByteArray))).setCell ⟨gb1088, 2, none⟩ (.slice none 0 0)).heap[gb1087]? = some (.cells #[.slice none 0 0, .slice none 0 0] 94 (0, 0))) := ⟨by (with_reducible repeat (first | refine blk_drewN ?_ _ | refine blk_drew ?_ | refine blk_alloc ?_ _)); refine blk_far ?_ NB1087_1088.out _; (with_reducible repeat (first | refine blk_drewN ?_ _ | refine blk_drew ?_ | refine blk_alloc ?_ _)); refine blk_far ?_ NB1087_1088.out _; (with_reducible repeat (first | refine blk_drewN ?_ _ | refine blk_drew ?_ | refine blk_alloc ?_ _)); refine blk_far ?_ NB1087_1088.out _; (with_reducible repeat (first | refine blk_drewN ?_ _ | refine blk_drew ?_ | refine blk_alloc ?_ _)); exact BK1087.out⟩
 have n1_ : Aside0 ((((w5.setCell ⟨gb1088, 0, none⟩ (.bool true)).setCell ⟨gb1088, 1, none⟩ (.string (⟨#[39, 97]⟩ : ByteArray))).setCell ⟨gb1088, 2, none⟩ (.slice none 0 0)).heap[gb1088]? = some (.cells #[.bool true, .string (⟨#[39, 97]⟩ : ByteArray), .slice none 0 0] 24 (0, 0))) := ⟨by (with_reducible repeat (first | refine blk_drewN ?_ _ | refine blk_drew ?_ | refine blk_alloc ?_ _)); refine blk_put (cs := #[.bool true, .string (⟨#[39, 97]⟩ : ByteArray), .slice none 0 0]) ?_ 2 _ rfl; (with_reducible repeat (first | refine blk_drewN ?_ _ | refine blk_drew ?_ | refine blk_alloc ?_ _)); refine blk_put (cs := #[.bool true, .string (⟨#[]⟩ : ByteArray), .slice none 0 0]) ?_ 1 _ rfl; (with_reducible repeat (first | refine blk_drewN ?_ _ | refine blk_drew ?_ | refine blk_alloc ?_ _)); refine blk_put (cs := #[.bool false, .string (⟨#[]⟩ : ByteArray), .slice none 0 0]) ?_ 0 _ rfl; (with_reducible repeat (first | refine blk_drewN ?_ _ | refine blk_drew ?_ | refine blk_alloc ?_ _)); exact BK1088.out⟩
 have n2_ : Aside0 (Below w.heap.size w (((w5.setCell ⟨gb1088, 0, none⟩ (.bool true)).setCell ⟨gb1088, 1, none⟩ (.string (⟨#[39, 97]⟩ : ByteArray))).setCell ⟨gb1088, 2, none⟩ (.slice none 0 0))) := ⟨bel_⟩
 (try clear BK1087)
 (try clear BK1088)
 (try clear HB)
 generalize (((w5.setCell ⟨gb1088, 0, none⟩ (.bool true)).setCell ⟨gb1088, 1, none⟩ (.string (⟨#[39, 97]⟩ : ByteArray))).setCell ⟨gb1088, 2, none⟩ (.slice none 0 0)) = w8 at n0_ n1_ n2_ ⊢
 have BK1087 := n0_
 have BK1088 := n1_
 have HB := n2_
 clear n0_ n1_ n2_
 have n0_ := Aside0.mk (blk_drew BK1087.out)
 have n1_ := Aside0.mk (blk_drew BK1088.out)
 have n2_ := Aside0.mk (below_drew1 HB.out)
 clear BK1087
 clear BK1088
 clear HB
 have BK1087 := n0_
 have BK1088 := n1_
 have HB := n2_
 clear n0_ n1_ n2_
 refine start_ (n := 7) (S := fun w' => w'.cell? ⟨gb1088, 0, none⟩ = some (.bool true) ∧ w'.cell? ⟨gb1088, 1, none⟩ = some (.string (⟨#[39, 97]⟩ : ByteArray)) ∧ w'.cell? ⟨gb1088, 2, none⟩ = some (.slice none 0 0)) (ds := []) #[false, false, false, false, false, false, false] (by kernel_rfl) rfl rfl ⟨(blk_cell BK1088.out 0).trans rfl, (blk_cell BK1088.out 1).trans rfl, (blk_cell BK1088.out 2).trans rfl⟩ (fun hHeld => ?_)
 generalize w8.drew = w9 at BK1087 BK1088 HB hHeld ⊢
 refine take_ (i := 0) (N := some 4) (v := ?_) (a' := ?_) #[true, false, false, false, false, false, false] rfl rfl (by kernel_rfl) (fun _ _ _ h => h) (Or.inl ⟨by rfl, ?_⟩) hHeld ?_ ?_
 rotate_left
 ·rintro w' ⟨s0, s1, s2⟩
  go_simp
  with_reducible rfl
 rotate_left
 ·simp only [Act.put, List.setIfInBounds_toArray, List.set_cons_zero, List.set_cons_succ, i64_w, i32_w]
  rfl
 refine take_ (i := 1) (N := some 5) (v := ?_) (a' := ?_) #[true, true, false, false, false, false, false] rfl rfl (by kernel_rfl) (fun _ _ _ h => h) (Or.inl ⟨by rfl, ?_⟩) hHeld ?_ ?_
 rotate_left
 ·rintro w' ⟨s0, s1, s2⟩
  go_simp
  with_reducible rfl
 rotate_left
 ·simp only [Act.put, List.setIfInBounds_toArray, List.set_cons_zero, List.set_cons_succ, i64_w, i32_w]
  rfl
 refine join_ (σ := Value × Value × Value × Nat) 1 #[true, true, true, true, true, true, false] (fun s_ => [(6, .agg #[.bool t1089, .string t1090, s_.1]), (7, .agg #[.bool t1094, .string t1095, s_.2.1]), (8, .agg #[.bool t1099, .string t1100, s_.2.2.1]), (2, .pointer (some ⟨s_.2.2.2, 0, none⟩))]) (fun s_ w' => (w'.cell? ⟨gb1088, 0, none⟩ = some (.bool true) ∧ w'.cell? ⟨gb1088, 1, none⟩ = some (.string (⟨#[39, 97]⟩ : ByteArray)) ∧ w'.cell? ⟨gb1088, 2, none⟩ = some (.slice none 0 0)) ∧ (Kd.N k24 24 w' w.heap.size (fun k_ => (w.heap.size ≤ k_) ∧ some k_ ≠ (s_.2.1 : Value).ownBlock ∧ some k_ ≠ (s_.2.2.1 : Value).ownBlock ∧ k_ ≠ gb1087 ∧ k_ ≠ gb1088 ∧ k_ ≠ s_.2.2.2) s_.1 t1091) ∧ (Kd.N k24 24 w' w.heap.size (fun k_ => (w.heap.size ≤ k_) ∧ some k_ ≠ (s_.1 : Value).ownBlock ∧ some k_ ≠ (s_.2.2.1 : Value).ownBlock ∧ k_ ≠ gb1087 ∧ k_ ≠ gb1088 ∧ k_ ≠ s_.2.2.2) s_.2.1 t1096) ∧ (Kd.N k24 24 w' w.heap.size (fun k_ => (w.heap.size ≤ k_) ∧ some k_ ≠ (s_.1 : Value).ownBlock ∧ some k_ ≠ (s_.2.1 : Value).ownBlock ∧ k_ ≠ gb1087 ∧ k_ ≠ gb1088 ∧ k_ ≠ s_.2.2.2) s_.2.2.1 t1101) ∧ (w'.heap[gb1087]? = some (.cells #[.slice none 0 0, .slice none 0 0] 94 (0, 0))) ∧ (w'.heap[gb1088]? = some (.cells #[.bool true, .string (⟨#[39, 97]⟩ : ByteArray), .slice none 0 0] 24 (0, 0))) ∧ (w'.heap[s_.2.2.2]? = some (.cells #[.bool false, .string (⟨#[]⟩ : ByteArray), .slice none 0 0] 24 (0, 0))) ∧ (w.heap.size ≤ s_.2.2.2) ∧ (w.heap.size ≤ s_.2.2.2) ∧ (gb1087 ≠ s_.2.2.2) ∧ (s_.2.2.2 ≠ gb1087) ∧ (gb1088 ≠ s_.2.2.2) ∧ (s_.2.2.2 ≠ gb1088) ∧ (Below w.heap.size w w')) ?_ ?_
 rotate_left
 ·intro hCont
  refine two_ (i := 2) (j := 5) (Ni := some 6) (Nj := some 2) #[true, true, true, false, false, false, false] #[true, true, false, false, false, true, false] rfl rfl rfl rfl (by kernel_rfl) (by decide) (by decide) (fun K hK => ?_) (fun K hK => ?_)
  ·skip
   refine goes_ Try.func41 (by kernel_rfl) rfl #[] (by rfl) rfl rfl (by (try simp only [List.map_toArray, List.map_cons, List.map_nil]); first | done | rfl | (simp only [List.length_drop, List.length_take]; rfl)) ?_
   with_reducible refine (types_Bool.calls  t1089 t1090 t1091 _ A1.out).mono ?_
   rintro e w10 ⟨v1092, rfl, ho0, hb⟩
   refine ⟨_, rfl, ?_⟩
   have n0_ := Aside0.mk (Kd.N_lower (Kd.N_mono (ok' := fun k_ => (w.heap.size ≤ k_) ∧ k_ ≠ gb1087 ∧ k_ ≠ gb1088) (Kd.R_N (Kd.R_bound ho0)) (fun k_ hk_ => ⟨(Nat.le_trans (below_size bel_) hk_.2.1), (Kd.freshB (g := gb1087) (o := .cells #[.slice none 0 0, .slice none 0 0] 94 (0, 0)) (bk_ BK1087) k_ hk_.2.1), (Kd.freshB (g := gb1088) (o := .cells #[.bool true, .string (⟨#[39, 97]⟩ : ByteArray), .slice none 0 0] 24 (0, 0)) (bk_ BK1088) k_ hk_.2.1)⟩)) (below_size bel_))
   have n1_ := Aside0.mk (blk_below (g := gb1087) (o := .cells #[.slice none 0 0, .slice none 0 0] 94 (0, 0)) (bk_ BK1087) hb)
   have n2_ := Aside0.mk (blk_below (g := gb1088) (o := .cells #[.bool true, .string (⟨#[39, 97]⟩ : ByteArray), .slice none 0 0] 24 (0, 0)) (bk_ BK1088) hb)
   have n3_ := Aside0.mk (below_step bel_ hb)
   clear BK1087
   clear BK1088
   clear HB
   have HO1093 := n0_
   have BK1087 := n1_
   have BK1088 := n2_
   have HB := n3_
   clear n0_ n1_ n2_ n3_
   (try clear hb)
   (try clear hb2)
   (try clear hk)
   (try clear hi)
   (try clear ho0)
   obtain ⟨Ao11, co11, eo11⟩ := Kd.N_slice HO1093.out
   (first | subst eo11 | (injection eo11 with f1_ f2_ f3_; have f4_ := f1_.symm; have f5_ := f3_.symm; clear f1_ f2_ f3_; subst f4_; subst f5_))
   refine hK.out _ _ ⟨(blk_cell BK1088.out 0).trans rfl, (blk_cell BK1088.out 1).trans rfl, (blk_cell BK1088.out 2).trans rfl⟩ (fun hHeld => ?_)
   clear hK K
   refine norm_ (a' := ?_) ?_ ?_
   rotate_left
   ·show Act.put _ (some 6) _ = _
    simp only [Act.put, List.setIfInBounds_toArray, List.set_cons_zero, List.set_cons_succ, i64_w, i32_w]
    rfl
   refine two_ (i := 3) (j := 5) (Ni := some 7) (Nj := some 2) #[true, true, true, true, false, false, false] #[true, true, true, false, false, true, false] rfl rfl rfl rfl (by kernel_rfl) (by decide) (by decide) (fun K hK => ?_) (fun K hK => ?_)
   ·skip
    refine goes_ Try.func42 (by kernel_rfl) rfl #[.agg #[.bool true, .string (⟨#[39, 97]⟩ : ByteArray), .slice none 0 0], .agg #[.bool t1089, .string t1090, .slice Ao11 t1091.length co11]] (by rfl) rfl rfl (by (try simp only [List.map_toArray, List.map_cons, List.map_nil]); first | done | rfl | (simp only [List.length_drop, List.length_take]; rfl)) ?_
    refine (types_Fun.calls true (⟨#[39, 97]⟩ : ByteArray) _ _ ([] : List (S24)) t1089 t1090 _ _ t1091 t1094 t1095 t1096 _ ?side1 ?side2 ?side3 ?side4 A2.out).mono ?_
    (case side1 => exact Kd.C_nil _ _)
    (case side2 => exact Nat.le_refl _)
    (case side3 => repeat (first | exact (Kd.N_reads' HO1093.out).2.2 | (with_reducible refine Kd.C_alloc ?_ _) | (with_reducible refine Kd.C_drewN ?_ _) | (with_reducible refine Kd.C_drew ?_)))
    (case side4 => exact (Kd.N_reads' HO1093.out).2.1)
    rintro e w12 ⟨v1097, rfl, ho0, hb⟩
    refine ⟨_, rfl, ?_⟩
    have n0_ := Aside0.mk (Kd.N_elder' (by (with_reducible repeat (first | apply Kd.N_alloc | apply Kd.N_drewN | apply Kd.N_drew)); exact HO1093.out) (by first | exact Kd.N_base ho0 | exact Kd.R_base ho0) hb)
    have n1_ := Aside0.mk (Kd.N_lower (Kd.N_mono (ok' := fun k_ => (w.heap.size ≤ k_) ∧ some k_ ≠ (.slice Ao11 t1091.length co11 : Value).ownBlock ∧ k_ ≠ gb1087 ∧ k_ ≠ gb1088) ho0 (fun k_ hk_ => ⟨(Nat.le_trans (below_size bel_) hk_), (Kd.fresh' (Kd.N_lt (by (with_reducible repeat (first | apply Kd.N_alloc | apply Kd.N_drewN | apply Kd.N_drew)); exact HO1093.out)) k_ hk_), (Kd.freshB (g := gb1087) (o := .cells #[.slice none 0 0, .slice none 0 0] 94 (0, 0)) (bk_ BK1087) k_ hk_), (Kd.freshB (g := gb1088) (o := .cells #[.bool true, .string (⟨#[39, 97]⟩ : ByteArray), .slice none 0 0] 24 (0, 0)) (bk_ BK1088) k_ hk_)⟩)) (below_size bel_))
    have n2_ := Aside0.mk (blk_below (g := gb1087) (o := .cells #[.slice none 0 0, .slice none 0 0] 94 (0, 0)) (bk_ BK1087) hb)
    have n3_ := Aside0.mk (blk_below (g := gb1088) (o := .cells #[.bool true, .string (⟨#[39, 97]⟩ : ByteArray), .slice none 0 0] 24 (0, 0)) (bk_ BK1088) hb)
    have n4_ := Aside0.mk (below_step bel_ hb)
    clear HO1093
    clear BK1087
    clear BK1088
    clear HB
    have HO1093 := n0_
    have HO1098 := n1_
    have BK1087 := n2_
    have BK1088 := n3_
    have HB := n4_
    clear n0_ n1_ n2_ n3_ n4_
    (try clear hb)
    (try clear hb2)
    (try clear hk)
    (try clear hi)
    (try clear ho0)
    obtain ⟨Ao13, co13, eo13⟩ := Kd.N_slice HO1098.out
    (first | subst eo13 | (injection eo13 with f1_ f2_ f3_; have f4_ := f1_.symm; have f5_ := f3_.symm; clear f1_ f2_ f3_; subst f4_; subst f5_))
    refine hK.out _ _ ⟨(blk_cell BK1088.out 0).trans rfl, (blk_cell BK1088.out 1).trans rfl, (blk_cell BK1088.out 2).trans rfl⟩ (fun hHeld => ?_)
    clear hK K
    refine norm_ (a' := ?_) ?_ ?_
    rotate_left
    ·show Act.put _ (some 7) _ = _
     simp only [Act.put, List.setIfInBounds_toArray, List.set_cons_zero, List.set_cons_succ, i64_w, i32_w]
     rfl
    refine two_ (i := 4) (j := 5) (Ni := some 8) (Nj := some 2) #[true, true, true, true, true, false, false] #[true, true, true, true, false, true, false] rfl rfl rfl rfl (by kernel_rfl) (by decide) (by decide) (fun K hK => ?_) (fun K hK => ?_)
    ·skip
     refine goes_ Try.func42 (by kernel_rfl) rfl #[.agg #[.bool true, .string (⟨#[39, 97]⟩ : ByteArray), .slice none 0 0], .agg #[.bool t1094, .string t1095, .slice Ao13 t1096.length co13]] (by rfl) rfl rfl (by (try simp only [List.map_toArray, List.map_cons, List.map_nil]); first | done | rfl | (simp only [List.length_drop, List.length_take]; rfl)) ?_
     refine (types_Fun.calls true (⟨#[39, 97]⟩ : ByteArray) _ _ ([] : List (S24)) t1094 t1095 _ _ t1096 t1099 t1100 t1101 _ ?side1 ?side2 ?side3 ?side4 A3.out).mono ?_
     (case side1 => exact Kd.C_nil _ _)
     (case side2 => exact Nat.le_refl _)
     (case side3 => repeat (first | exact (Kd.N_reads' HO1098.out).2.2 | (with_reducible refine Kd.C_alloc ?_ _) | (with_reducible refine Kd.C_drewN ?_ _) | (with_reducible refine Kd.C_drew ?_)))
     (case side4 => exact (Kd.N_reads' HO1098.out).2.1)
     rintro e w14 ⟨v1102, rfl, ho0, hb⟩
     refine ⟨_, rfl, ?_⟩
     have n0_ := Aside0.mk (Kd.N_elder' (by (with_reducible repeat (first | apply Kd.N_alloc | apply Kd.N_drewN | apply Kd.N_drew)); exact HO1093.out) (by first | exact Kd.N_base ho0 | exact Kd.R_base ho0) hb)
     have n1_ := Aside0.mk (Kd.N_elder' (by (with_reducible repeat (first | apply Kd.N_alloc | apply Kd.N_drewN | apply Kd.N_drew)); exact HO1098.out) (by first | exact Kd.N_base ho0 | exact Kd.R_base ho0) hb)
     have n2_ := Aside0.mk (Kd.N_lower (Kd.N_mono (ok' := fun k_ => (w.heap.size ≤ k_) ∧ some k_ ≠ (.slice Ao11 t1091.length co11 : Value).ownBlock ∧ some k_ ≠ (.slice Ao13 t1096.length co13 : Value).ownBlock ∧ k_ ≠ gb1087 ∧ k_ ≠ gb1088) ho0 (fun k_ hk_ => ⟨(Nat.le_trans (below_size bel_) hk_), (Kd.fresh' (Kd.N_lt (by (with_reducible repeat (first | apply Kd.N_alloc | apply Kd.N_drewN | apply Kd.N_drew)); exact HO1093.out)) k_ hk_), (Kd.fresh' (Kd.N_lt (by (with_reducible repeat (first | apply Kd.N_alloc | apply Kd.N_drewN | apply Kd.N_drew)); exact HO1098.out)) k_ hk_), (Kd.freshB (g := gb1087) (o := .cells #[.slice none 0 0, .slice none 0 0] 94 (0, 0)) (bk_ BK1087) k_ hk_), (Kd.freshB (g := gb1088) (o := .cells #[.bool true, .string (⟨#[39, 97]⟩ : ByteArray), .slice none 0 0] 24 (0, 0)) (bk_ BK1088) k_ hk_)⟩)) (below_size bel_))
     have n3_ := Aside0.mk (blk_below (g := gb1087) (o := .cells #[.slice none 0 0, .slice none 0 0] 94 (0, 0)) (bk_ BK1087) hb)
     have n4_ := Aside0.mk (blk_below (g := gb1088) (o := .cells #[.bool true, .string (⟨#[39, 97]⟩ : ByteArray), .slice none 0 0] 24 (0, 0)) (bk_ BK1088) hb)
     have n5_ := Aside0.mk (below_step bel_ hb)
     clear HO1093
     clear HO1098
     clear BK1087
     clear BK1088
     clear HB
     have HO1093 := n0_
     have HO1098 := n1_
     have HO1103 := n2_
     have BK1087 := n3_
     have BK1088 := n4_
     have HB := n5_
     clear n0_ n1_ n2_ n3_ n4_ n5_
     (try clear hb)
     (try clear hb2)
     (try clear hk)
     (try clear hi)
     (try clear ho0)
     refine hK.out _ _ ⟨(blk_cell BK1088.out 0).trans rfl, (blk_cell BK1088.out 1).trans rfl, (blk_cell BK1088.out 2).trans rfl⟩ (fun hHeld => ?_)
     clear hK K
     refine norm_ (a' := ?_) ?_ ?_
     rotate_left
     ·show Act.put _ (some 8) _ = _
      simp only [Act.put, List.setIfInBounds_toArray, List.set_cons_zero, List.set_cons_succ, i64_w, i32_w]
      rfl
     refine one_ (i := 5) (N := some 2) #[true, true, true, true, true, true, false] rfl rfl (by kernel_rfl) (by decide) (fun K hK => ?_)
     refine box_step ?hg (N := 2) ?hd (cs := #[.bool false, .string (⟨#[]⟩ : ByteArray), .slice none 0 0]) (t := 24) ?hr ?_; (case hd => rfl); (case hg => rfl); (case hr => first | (go_simp; done) | (go_simp; rfl))
     intro gb1104 hg w15 hbox hb
     have n0_ := Aside0.mk (Kd.N_below (Kd.N_elderB (by (with_reducible repeat (first | apply Kd.N_alloc | apply Kd.N_drewN | apply Kd.N_drew)); exact HO1093.out) gb1104 (Nat.le_of_eq hg.symm)) hb)
     have n1_ := Aside0.mk (Kd.N_below (Kd.N_elderB (by (with_reducible repeat (first | apply Kd.N_alloc | apply Kd.N_drewN | apply Kd.N_drew)); exact HO1098.out) gb1104 (Nat.le_of_eq hg.symm)) hb)
     have n2_ := Aside0.mk (Kd.N_below (Kd.N_elderB (by (with_reducible repeat (first | apply Kd.N_alloc | apply Kd.N_drewN | apply Kd.N_drew)); exact HO1103.out) gb1104 (Nat.le_of_eq hg.symm)) hb)
     have n3_ := Aside0.mk (blk_below (g := gb1087) (o := .cells #[.slice none 0 0, .slice none 0 0] 94 (0, 0)) (bk_ BK1087) hb)
     have n4_ := Aside0.mk (blk_below (g := gb1088) (o := .cells #[.bool true, .string (⟨#[39, 97]⟩ : ByteArray), .slice none 0 0] 24 (0, 0)) (bk_ BK1088) hb)
     have n5_ := Aside0.mk (below_step bel_ hb)
     have n6_ := Aside0.mk (hbox)
     have n7_ := Aside0.mk ((by rw [hg]; exact (below_size bel_) : w.heap.size ≤ gb1104))
     have n8_ := Aside0.mk ((by rw [hg]; exact (below_size bel_) : w.heap.size ≤ gb1104))
     have n9_ := Aside0.mk ((by rw [hg]; exact Nat.ne_of_lt (blk_lt (g := gb1087) (o := .cells #[.slice none 0 0, .slice none 0 0] 94 (0, 0)) (bk_ BK1087)) : gb1087 ≠ gb1104))
     have n10_ := Aside0.mk ((by rw [hg]; exact Nat.ne_of_gt (blk_lt (g := gb1087) (o := .cells #[.slice none 0 0, .slice none 0 0] 94 (0, 0)) (bk_ BK1087)) : gb1104 ≠ gb1087))
     have n11_ := Aside0.mk ((by rw [hg]; exact Nat.ne_of_lt (blk_lt (g := gb1088) (o := .cells #[.bool true, .string (⟨#[39, 97]⟩ : ByteArray), .slice none 0 0] 24 (0, 0)) (bk_ BK1088)) : gb1088 ≠ gb1104))
     have n12_ := Aside0.mk ((by rw [hg]; exact Nat.ne_of_gt (blk_lt (g := gb1088) (o := .cells #[.bool true, .string (⟨#[39, 97]⟩ : ByteArray), .slice none 0 0] 24 (0, 0)) (bk_ BK1088)) : gb1104 ≠ gb1088))
     clear HO1093
     clear HO1098
     clear HO1103
     clear BK1087
     clear BK1088
     clear HB
     have HO1093 := n0_
     have HO1098 := n1_
     have HO1103 := n2_
     have BK1087 := n3_
     have BK1088 := n4_
     have HB := n5_
     have BK1104 := n6_
     have GW1104 := n7_
     have GE1104 := n8_
     have NB1087_1104 := n9_
     have NB1104_1087 := n10_
     have NB1088_1104 := n11_
     have NB1104_1088 := n12_
     clear n0_ n1_ n2_ n3_ n4_ n5_ n6_ n7_ n8_ n9_ n10_ n11_ n12_
     clear hb hbox hg
     refine hK.out _ _ ⟨(blk_cell BK1088.out 0).trans rfl, (blk_cell BK1088.out 1).trans rfl, (blk_cell BK1088.out 2).trans rfl⟩ (fun hHeld => ?_)
     clear hK K
     refine norm_ (a' := ?_) ?_ ?_
     rotate_left
     ·show Act.put _ (some 2) _ = _
      simp only [Act.put, List.setIfInBounds_toArray, List.set_cons_zero, List.set_cons_succ, i64_w, i32_w]
      rfl
     exact norm_ (by simp only [putAll, Act.put, List.setIfInBounds_toArray, List.set_cons_zero, List.set_cons_succ]) (hCont (.slice Ao11 t1091.length co11, .slice Ao13 t1096.length co13, v1102, gb1104) _ ⟨hHeld, (by (with_reducible repeat (first | apply Kd.N_alloc | apply Kd.N_drewN | apply Kd.N_drew)); exact Kd.N_mono HO1093.out (fun _ hk => ⟨hk.1.1.1.1, ⟨hk.1.1.2, ⟨hk.1.2, ⟨hk.1.1.1.2.1, ⟨hk.1.1.1.2.2, hk.2⟩⟩⟩⟩⟩)), (by (with_reducible repeat (first | apply Kd.N_alloc | apply Kd.N_drewN | apply Kd.N_drew)); exact Kd.N_mono HO1098.out (fun _ hk => ⟨hk.1.1.1, ⟨hk.1.1.2.1, ⟨hk.1.2, ⟨hk.1.1.2.2.1, ⟨hk.1.1.2.2.2, hk.2⟩⟩⟩⟩⟩)), (by (with_reducible repeat (first | apply Kd.N_alloc | apply Kd.N_drewN | apply Kd.N_drew)); exact Kd.N_mono HO1103.out (fun _ hk => ⟨hk.1.1, ⟨hk.1.2.1, ⟨hk.1.2.2.1, ⟨hk.1.2.2.2.1, ⟨hk.1.2.2.2.2, hk.2⟩⟩⟩⟩⟩)), (bk_ BK1087), (bk_ BK1088), (bk_ BK1104), GW1104.out, GE1104.out, NB1087_1104.out, NB1104_1087.out, NB1088_1104.out, NB1104_1088.out, bel_⟩)
    ·skip
     refine box_step ?hg (N := 2) ?hd (cs := #[.bool false, .string (⟨#[]⟩ : ByteArray), .slice none 0 0]) (t := 24) ?hr ?_; (case hd => rfl); (case hg => rfl); (case hr => first | (go_simp; done) | (go_simp; rfl))
     intro gb1104 hg w13 hbox hb
     have n0_ := Aside0.mk (Kd.N_below (Kd.N_elderB (by (with_reducible repeat (first | apply Kd.N_alloc | apply Kd.N_drewN | apply Kd.N_drew)); exact HO1093.out) gb1104 (Nat.le_of_eq hg.symm)) hb)
     have n1_ := Aside0.mk (Kd.N_below (Kd.N_elderB (by (with_reducible repeat (first | apply Kd.N_alloc | apply Kd.N_drewN | apply Kd.N_drew)); exact HO1098.out) gb1104 (Nat.le_of_eq hg.symm)) hb)
     have n2_ := Aside0.mk (blk_below (g := gb1087) (o := .cells #[.slice none 0 0, .slice none 0 0] 94 (0, 0)) (bk_ BK1087) hb)
     have n3_ := Aside0.mk (blk_below (g := gb1088) (o := .cells #[.bool true, .string (⟨#[39, 97]⟩ : ByteArray), .slice none 0 0] 24 (0, 0)) (bk_ BK1088) hb)
     have n4_ := Aside0.mk (below_step bel_ hb)
     have n5_ := Aside0.mk (hbox)
     have n6_ := Aside0.mk ((by rw [hg]; exact (below_size bel_) : w.heap.size ≤ gb1104))
     have n7_ := Aside0.mk ((by rw [hg]; exact (below_size bel_) : w.heap.size ≤ gb1104))
     have n8_ := Aside0.mk ((by rw [hg]; exact Nat.ne_of_lt (blk_lt (g := gb1087) (o := .cells #[.slice none 0 0, .slice none 0 0] 94 (0, 0)) (bk_ BK1087)) : gb1087 ≠ gb1104))
     have n9_ := Aside0.mk ((by rw [hg]; exact Nat.ne_of_gt (blk_lt (g := gb1087) (o := .cells #[.slice none 0 0, .slice none 0 0] 94 (0, 0)) (bk_ BK1087)) : gb1104 ≠ gb1087))
     have n10_ := Aside0.mk ((by rw [hg]; exact Nat.ne_of_lt (blk_lt (g := gb1088) (o := .cells #[.bool true, .string (⟨#[39, 97]⟩ : ByteArray), .slice none 0 0] 24 (0, 0)) (bk_ BK1088)) : gb1088 ≠ gb1104))
     have n11_ := Aside0.mk ((by rw [hg]; exact Nat.ne_of_gt (blk_lt (g := gb1088) (o := .cells #[.bool true, .string (⟨#[39, 97]⟩ : ByteArray), .slice none 0 0] 24 (0, 0)) (bk_ BK1088)) : gb1104 ≠ gb1088))
     clear HO1093
     clear HO1098
     clear BK1087
     clear BK1088
     clear HB
     have HO1093 := n0_
     have HO1098 := n1_
     have BK1087 := n2_
     have BK1088 := n3_
     have HB := n4_
     have BK1104 := n5_
     have GW1104 := n6_
     have GE1104 := n7_
     have NB1087_1104 := n8_
     have NB1104_1087 := n9_
     have NB1088_1104 := n10_
     have NB1104_1088 := n11_
     clear n0_ n1_ n2_ n3_ n4_ n5_ n6_ n7_ n8_ n9_ n10_ n11_
     clear hb hbox hg
     obtain ⟨Ao14, co14, eo14⟩ := Kd.N_slice HO1098.out
     (first | subst eo14 | (injection eo14 with f1_ f2_ f3_; have f4_ := f1_.symm; have f5_ := f3_.symm; clear f1_ f2_ f3_; subst f4_; subst f5_))
     refine hK.out _ _ ⟨(blk_cell BK1088.out 0).trans rfl, (blk_cell BK1088.out 1).trans rfl, (blk_cell BK1088.out 2).trans rfl⟩ (fun hHeld => ?_)
     clear hK K
     refine norm_ (a' := ?_) ?_ ?_
     rotate_left
     ·show Act.put _ (some 2) _ = _
      simp only [Act.put, List.setIfInBounds_toArray, List.set_cons_zero, List.set_cons_succ, i64_w, i32_w]
      rfl
     refine one_ (i := 4) (N := some 8) #[true, true, true, true, true, true, false] rfl rfl (by kernel_rfl) (by decide) (fun K hK => ?_)
     refine goes_ Try.func42 (by kernel_rfl) rfl #[.agg #[.bool true, .string (⟨#[39, 97]⟩ : ByteArray), .slice none 0 0], .agg #[.bool t1094, .string t1095, .slice Ao14 t1096.length co14]] (by rfl) rfl rfl (by (try simp only [List.map_toArray, List.map_cons, List.map_nil]); first | done | rfl | (simp only [List.length_drop, List.length_take]; rfl)) ?_
     refine (types_Fun.calls true (⟨#[39, 97]⟩ : ByteArray) _ _ ([] : List (S24)) t1094 t1095 _ _ t1096 t1099 t1100 t1101 _ ?side1 ?side2 ?side3 ?side4 A3.out).mono ?_
     (case side1 => exact Kd.C_nil _ _)
     (case side2 => exact Nat.le_refl _)
     (case side3 => repeat (first | exact (Kd.N_reads' HO1098.out).2.2 | (with_reducible refine Kd.C_alloc ?_ _) | (with_reducible refine Kd.C_drewN ?_ _) | (with_reducible refine Kd.C_drew ?_)))
     (case side4 => exact (Kd.N_reads' HO1098.out).2.1)
     rintro e w15 ⟨v1102, rfl, ho0, hb⟩
     refine ⟨_, rfl, ?_⟩
     have n0_ := Aside0.mk (Kd.N_elder' (by (with_reducible repeat (first | apply Kd.N_alloc | apply Kd.N_drewN | apply Kd.N_drew)); exact HO1093.out) (by first | exact Kd.N_base ho0 | exact Kd.R_base ho0) hb)
     have n1_ := Aside0.mk (Kd.N_elder' (by (with_reducible repeat (first | apply Kd.N_alloc | apply Kd.N_drewN | apply Kd.N_drew)); exact HO1098.out) (by first | exact Kd.N_base ho0 | exact Kd.R_base ho0) hb)
     have n2_ := Aside0.mk (Kd.N_lower (Kd.N_mono (ok' := fun k_ => (w.heap.size ≤ k_) ∧ some k_ ≠ (.slice Ao11 t1091.length co11 : Value).ownBlock ∧ some k_ ≠ (.slice Ao14 t1096.length co14 : Value).ownBlock ∧ k_ ≠ gb1087 ∧ k_ ≠ gb1088 ∧ k_ ≠ gb1104) ho0 (fun k_ hk_ => ⟨(Nat.le_trans (below_size bel_) hk_), (Kd.fresh' (Kd.N_lt (by (with_reducible repeat (first | apply Kd.N_alloc | apply Kd.N_drewN | apply Kd.N_drew)); exact HO1093.out)) k_ hk_), (Kd.fresh' (Kd.N_lt (by (with_reducible repeat (first | apply Kd.N_alloc | apply Kd.N_drewN | apply Kd.N_drew)); exact HO1098.out)) k_ hk_), (Kd.freshB (g := gb1087) (o := .cells #[.slice none 0 0, .slice none 0 0] 94 (0, 0)) (bk_ BK1087) k_ hk_), (Kd.freshB (g := gb1088) (o := .cells #[.bool true, .string (⟨#[39, 97]⟩ : ByteArray), .slice none 0 0] 24 (0, 0)) (bk_ BK1088) k_ hk_), (Kd.freshB (g := gb1104) (o := .cells #[.bool false, .string (⟨#[]⟩ : ByteArray), .slice none 0 0] 24 (0, 0)) (bk_ BK1104) k_ hk_)⟩)) (below_size bel_))
     have n3_ := Aside0.mk (blk_below (g := gb1087) (o := .cells #[.slice none 0 0, .slice none 0 0] 94 (0, 0)) (bk_ BK1087) hb)
     have n4_ := Aside0.mk (blk_below (g := gb1088) (o := .cells #[.bool true, .string (⟨#[39, 97]⟩ : ByteArray), .slice none 0 0] 24 (0, 0)) (bk_ BK1088) hb)
     have n5_ := Aside0.mk (blk_below (g := gb1104) (o := .cells #[.bool false, .string (⟨#[]⟩ : ByteArray), .slice none 0 0] 24 (0, 0)) (bk_ BK1104) hb)
     have n6_ := Aside0.mk (below_step bel_ hb)
     clear HO1093
     clear HO1098
     clear BK1087
     clear BK1088
     clear BK1104
     clear HB
     have HO1093 := n0_
     have HO1098 := n1_
     have HO1103 := n2_
     have BK1087 := n3_
     have BK1088 := n4_
     have BK1104 := n5_
     have HB := n6_
     clear n0_ n1_ n2_ n3_ n4_ n5_ n6_
     (try clear hb)
     (try clear hb2)
     (try clear hk)
     (try clear hi)
     (try clear ho0)
     refine hK.out _ _ ⟨(blk_cell BK1088.out 0).trans rfl, (blk_cell BK1088.out 1).trans rfl, (blk_cell BK1088.out 2).trans rfl⟩ (fun hHeld => ?_)
     clear hK K
     refine norm_ (a' := ?_) ?_ ?_
     rotate_left
     ·show Act.put _ (some 8) _ = _
      simp only [Act.put, List.setIfInBounds_toArray, List.set_cons_zero, List.set_cons_succ, i64_w, i32_w]
      rfl
     exact norm_ (by simp only [putAll, Act.put, List.setIfInBounds_toArray, List.set_cons_zero, List.set_cons_succ]) (hCont (.slice Ao11 t1091.length co11, .slice Ao14 t1096.length co14, v1102, gb1104) _ ⟨hHeld, (by (with_reducible repeat (first | apply Kd.N_alloc | apply Kd.N_drewN | apply Kd.N_drew)); exact Kd.N_mono HO1093.out (fun _ hk => ⟨hk.1.1.1.1, ⟨hk.1.1.2, ⟨hk.2, ⟨hk.1.1.1.2.1, ⟨hk.1.1.1.2.2, hk.1.2⟩⟩⟩⟩⟩)), (by (with_reducible repeat (first | apply Kd.N_alloc | apply Kd.N_drewN | apply Kd.N_drew)); exact Kd.N_mono HO1098.out (fun _ hk => ⟨hk.1.1.1, ⟨hk.1.1.2.1, ⟨hk.2, ⟨hk.1.1.2.2.1, ⟨hk.1.1.2.2.2, hk.1.2⟩⟩⟩⟩⟩)), (by (with_reducible repeat (first | apply Kd.N_alloc | apply Kd.N_drewN | apply Kd.N_drew)); exact HO1103.out), (bk_ BK1087), (bk_ BK1088), (bk_ BK1104), GW1104.out, GE1104.out, NB1087_1104.out, NB1104_1087.out, NB1088_1104.out, NB1104_1088.out, bel_⟩)
   ·skip
    refine box_step ?hg (N := 2) ?hd (cs := #[.bool false, .string (⟨#[]⟩ : ByteArray), .slice none 0 0]) (t := 24) ?hr ?_; (case hd => rfl); (case hg => rfl); (case hr => first | (go_simp; done) | (go_simp; rfl))
    intro gb1104 hg w11 hbox hb
    have n0_ := Aside0.mk (Kd.N_below (Kd.N_elderB (by (with_reducible repeat (first | apply Kd.N_alloc | apply Kd.N_drewN | apply Kd.N_drew)); exact HO1093.out) gb1104 (Nat.le_of_eq hg.symm)) hb)
    have n1_ := Aside0.mk (blk_below (g := gb1087) (o := .cells #[.slice none 0 0, .slice none 0 0] 94 (0, 0)) (bk_ BK1087) hb)
    have n2_ := Aside0.mk (blk_below (g := gb1088) (o := .cells #[.bool true, .string (⟨#[39, 97]⟩ : ByteArray), .slice none 0 0] 24 (0, 0)) (bk_ BK1088) hb)
    have n3_ := Aside0.mk (below_step bel_ hb)
    have n4_ := Aside0.mk (hbox)
    have n5_ := Aside0.mk ((by rw [hg]; exact (below_size bel_) : w.heap.size ≤ gb1104))
    have n6_ := Aside0.mk ((by rw [hg]; exact (below_size bel_) : w.heap.size ≤ gb1104))
    have n7_ := Aside0.mk ((by rw [hg]; exact Nat.ne_of_lt (blk_lt (g := gb1087) (o := .cells #[.slice none 0 0, .slice none 0 0] 94 (0, 0)) (bk_ BK1087)) : gb1087 ≠ gb1104))
    have n8_ := Aside0.mk ((by rw [hg]; exact Nat.ne_of_gt (blk_lt (g := gb1087) (o := .cells #[.slice none 0 0, .slice none 0 0] 94 (0, 0)) (bk_ BK1087)) : gb1104 ≠ gb1087))
    have n9_ := Aside0.mk ((by rw [hg]; exact Nat.ne_of_lt (blk_lt (g := gb1088) (o := .cells #[.bool true, .string (⟨#[39, 97]⟩ : ByteArray), .slice none 0 0] 24 (0, 0)) (bk_ BK1088)) : gb1088 ≠ gb1104))
    have n10_ := Aside0.mk ((by rw [hg]; exact Nat.ne_of_gt (blk_lt (g := gb1088) (o := .cells #[.bool true, .string (⟨#[39, 97]⟩ : ByteArray), .slice none 0 0] 24 (0, 0)) (bk_ BK1088)) : gb1104 ≠ gb1088))
    clear HO1093
    clear BK1087
    clear BK1088
    clear HB
    have HO1093 := n0_
    have BK1087 := n1_
    have BK1088 := n2_
    have HB := n3_
    have BK1104 := n4_
    have GW1104 := n5_
    have GE1104 := n6_
    have NB1087_1104 := n7_
    have NB1104_1087 := n8_
    have NB1088_1104 := n9_
    have NB1104_1088 := n10_
    clear n0_ n1_ n2_ n3_ n4_ n5_ n6_ n7_ n8_ n9_ n10_
    clear hb hbox hg
    obtain ⟨Ao12, co12, eo12⟩ := Kd.N_slice HO1093.out
    (first | subst eo12 | (injection eo12 with f1_ f2_ f3_; have f4_ := f1_.symm; have f5_ := f3_.symm; clear f1_ f2_ f3_; subst f4_; subst f5_))
    refine hK.out _ _ ⟨(blk_cell BK1088.out 0).trans rfl, (blk_cell BK1088.out 1).trans rfl, (blk_cell BK1088.out 2).trans rfl⟩ (fun hHeld => ?_)
    clear hK K
    refine norm_ (a' := ?_) ?_ ?_
    rotate_left
    ·show Act.put _ (some 2) _ = _
     simp only [Act.put, List.setIfInBounds_toArray, List.set_cons_zero, List.set_cons_succ, i64_w, i32_w]
     rfl
    refine one_ (i := 3) (N := some 7) #[true, true, true, true, false, true, false] rfl rfl (by kernel_rfl) (by decide) (fun K hK => ?_)
    refine goes_ Try.func42 (by kernel_rfl) rfl #[.agg #[.bool true, .string (⟨#[39, 97]⟩ : ByteArray), .slice none 0 0], .agg #[.bool t1089, .string t1090, .slice Ao12 t1091.length co12]] (by rfl) rfl rfl (by (try simp only [List.map_toArray, List.map_cons, List.map_nil]); first | done | rfl | (simp only [List.length_drop, List.length_take]; rfl)) ?_
    refine (types_Fun.calls true (⟨#[39, 97]⟩ : ByteArray) _ _ ([] : List (S24)) t1089 t1090 _ _ t1091 t1094 t1095 t1096 _ ?side1 ?side2 ?side3 ?side4 A2.out).mono ?_
    (case side1 => exact Kd.C_nil _ _)
    (case side2 => exact Nat.le_refl _)
    (case side3 => repeat (first | exact (Kd.N_reads' HO1093.out).2.2 | (with_reducible refine Kd.C_alloc ?_ _) | (with_reducible refine Kd.C_drewN ?_ _) | (with_reducible refine Kd.C_drew ?_)))
    (case side4 => exact (Kd.N_reads' HO1093.out).2.1)
    rintro e w13 ⟨v1097, rfl, ho0, hb⟩
    refine ⟨_, rfl, ?_⟩
    have n0_ := Aside0.mk (Kd.N_elder' (by (with_reducible repeat (first | apply Kd.N_alloc | apply Kd.N_drewN | apply Kd.N_drew)); exact HO1093.out) (by first | exact Kd.N_base ho0 | exact Kd.R_base ho0) hb)
    have n1_ := Aside0.mk (Kd.N_lower (Kd.N_mono (ok' := fun k_ => (w.heap.size ≤ k_) ∧ some k_ ≠ (.slice Ao12 t1091.length co12 : Value).ownBlock ∧ k_ ≠ gb1087 ∧ k_ ≠ gb1088 ∧ k_ ≠ gb1104) ho0 (fun k_ hk_ => ⟨(Nat.le_trans (below_size bel_) hk_), (Kd.fresh' (Kd.N_lt (by (with_reducible repeat (first | apply Kd.N_alloc | apply Kd.N_drewN | apply Kd.N_drew)); exact HO1093.out)) k_ hk_), (Kd.freshB (g := gb1087) (o := .cells #[.slice none 0 0, .slice none 0 0] 94 (0, 0)) (bk_ BK1087) k_ hk_), (Kd.freshB (g := gb1088) (o := .cells #[.bool true, .string (⟨#[39, 97]⟩ : ByteArray), .slice none 0 0] 24 (0, 0)) (bk_ BK1088) k_ hk_), (Kd.freshB (g := gb1104) (o := .cells #[.bool false, .string (⟨#[]⟩ : ByteArray), .slice none 0 0] 24 (0, 0)) (bk_ BK1104) k_ hk_)⟩)) (below_size bel_))
    have n2_ := Aside0.mk (blk_below (g := gb1087) (o := .cells #[.slice none 0 0, .slice none 0 0] 94 (0, 0)) (bk_ BK1087) hb)
    have n3_ := Aside0.mk (blk_below (g := gb1088) (o := .cells #[.bool true, .string (⟨#[39, 97]⟩ : ByteArray), .slice none 0 0] 24 (0, 0)) (bk_ BK1088) hb)
    have n4_ := Aside0.mk (blk_below (g := gb1104) (o := .cells #[.bool false, .string (⟨#[]⟩ : ByteArray), .slice none 0 0] 24 (0, 0)) (bk_ BK1104) hb)
    have n5_ := Aside0.mk (below_step bel_ hb)
    clear HO1093
    clear BK1087
    clear BK1088
    clear BK1104
    clear HB
    have HO1093 := n0_
    have HO1098 := n1_
    have BK1087 := n2_
    have BK1088 := n3_
    have BK1104 := n4_
    have HB := n5_
    clear n0_ n1_ n2_ n3_ n4_ n5_
    (try clear hb)
    (try clear hb2)
    (try clear hk)
    (try clear hi)
    (try clear ho0)
    obtain ⟨Ao14, co14, eo14⟩ := Kd.N_slice HO1098.out
    (first | subst eo14 | (injection eo14 with f1_ f2_ f3_; have f4_ := f1_.symm; have f5_ := f3_.symm; clear f1_ f2_ f3_; subst f4_; subst f5_))
    refine hK.out _ _ ⟨(blk_cell BK1088.out 0).trans rfl, (blk_cell BK1088.out 1).trans rfl, (blk_cell BK1088.out 2).trans rfl⟩ (fun hHeld => ?_)
    clear hK K
    refine norm_ (a' := ?_) ?_ ?_
    rotate_left
    ·show Act.put _ (some 7) _ = _
     simp only [Act.put, List.setIfInBounds_toArray, List.set_cons_zero, List.set_cons_succ, i64_w, i32_w]
     rfl
    refine one_ (i := 4) (N := some 8) #[true, true, true, true, true, true, false] rfl rfl (by kernel_rfl) (by decide) (fun K hK => ?_)
    refine goes_ Try.func42 (by kernel_rfl) rfl #[.agg #[.bool true, .string (⟨#[39, 97]⟩ : ByteArray), .slice none 0 0], .agg #[.bool t1094, .string t1095, .slice Ao14 t1096.length co14]] (by rfl) rfl rfl (by (try simp only [List.map_toArray, List.map_cons, List.map_nil]); first | done | rfl | (simp only [List.length_drop, List.length_take]; rfl)) ?_
    refine (types_Fun.calls true (⟨#[39, 97]⟩ : ByteArray) _ _ ([] : List (S24)) t1094 t1095 _ _ t1096 t1099 t1100 t1101 _ ?side1 ?side2 ?side3 ?side4 A3.out).mono ?_
    (case side1 => exact Kd.C_nil _ _)
    (case side2 => exact Nat.le_refl _)
    (case side3 => repeat (first | exact (Kd.N_reads' HO1098.out).2.2 | (with_reducible refine Kd.C_alloc ?_ _) | (with_reducible refine Kd.C_drewN ?_ _) | (with_reducible refine Kd.C_drew ?_)))
    (case side4 => exact (Kd.N_reads' HO1098.out).2.1)
    rintro e w15 ⟨v1102, rfl, ho0, hb⟩
    refine ⟨_, rfl, ?_⟩
    have n0_ := Aside0.mk (Kd.N_elder' (by (with_reducible repeat (first | apply Kd.N_alloc | apply Kd.N_drewN | apply Kd.N_drew)); exact HO1093.out) (by first | exact Kd.N_base ho0 | exact Kd.R_base ho0) hb)
    have n1_ := Aside0.mk (Kd.N_elder' (by (with_reducible repeat (first | apply Kd.N_alloc | apply Kd.N_drewN | apply Kd.N_drew)); exact HO1098.out) (by first | exact Kd.N_base ho0 | exact Kd.R_base ho0) hb)
    have n2_ := Aside0.mk (Kd.N_lower (Kd.N_mono (ok' := fun k_ => (w.heap.size ≤ k_) ∧ some k_ ≠ (.slice Ao12 t1091.length co12 : Value).ownBlock ∧ some k_ ≠ (.slice Ao14 t1096.length co14 : Value).ownBlock ∧ k_ ≠ gb1087 ∧ k_ ≠ gb1088 ∧ k_ ≠ gb1104) ho0 (fun k_ hk_ => ⟨(Nat.le_trans (below_size bel_) hk_), (Kd.fresh' (Kd.N_lt (by (with_reducible repeat (first | apply Kd.N_alloc | apply Kd.N_drewN | apply Kd.N_drew)); exact HO1093.out)) k_ hk_), (Kd.fresh' (Kd.N_lt (by (with_reducible repeat (first | apply Kd.N_alloc | apply Kd.N_drewN | apply Kd.N_drew)); exact HO1098.out)) k_ hk_), (Kd.freshB (g := gb1087) (o := .cells #[.slice none 0 0, .slice none 0 0] 94 (0, 0)) (bk_ BK1087) k_ hk_), (Kd.freshB (g := gb1088) (o := .cells #[.bool true, .string (⟨#[39, 97]⟩ : ByteArray), .slice none 0 0] 24 (0, 0)) (bk_ BK1088) k_ hk_), (Kd.freshB (g := gb1104) (o := .cells #[.bool false, .string (⟨#[]⟩ : ByteArray), .slice none 0 0] 24 (0, 0)) (bk_ BK1104) k_ hk_)⟩)) (below_size bel_))
    have n3_ := Aside0.mk (blk_below (g := gb1087) (o := .cells #[.slice none 0 0, .slice none 0 0] 94 (0, 0)) (bk_ BK1087) hb)
    have n4_ := Aside0.mk (blk_below (g := gb1088) (o := .cells #[.bool true, .string (⟨#[39, 97]⟩ : ByteArray), .slice none 0 0] 24 (0, 0)) (bk_ BK1088) hb)
    have n5_ := Aside0.mk (blk_below (g := gb1104) (o := .cells #[.bool false, .string (⟨#[]⟩ : ByteArray), .slice none 0 0] 24 (0, 0)) (bk_ BK1104) hb)
    have n6_ := Aside0.mk (below_step bel_ hb)
    clear HO1093
    clear HO1098
    clear BK1087
    clear BK1088
    clear BK1104
    clear HB
    have HO1093 := n0_
    have HO1098 := n1_
    have HO1103 := n2_
    have BK1087 := n3_
    have BK1088 := n4_
    have BK1104 := n5_
    have HB := n6_
    clear n0_ n1_ n2_ n3_ n4_ n5_ n6_
    (try clear hb)
    (try clear hb2)
    (try clear hk)
    (try clear hi)
    (try clear ho0)
    refine hK.out _ _ ⟨(blk_cell BK1088.out 0).trans rfl, (blk_cell BK1088.out 1).trans rfl, (blk_cell BK1088.out 2).trans rfl⟩ (fun hHeld => ?_)
    clear hK K
    refine norm_ (a' := ?_) ?_ ?_
    rotate_left
    ·show Act.put _ (some 8) _ = _
     simp only [Act.put, List.setIfInBounds_toArray, List.set_cons_zero, List.set_cons_succ, i64_w, i32_w]
     rfl
    exact norm_ (by simp only [putAll, Act.put, List.setIfInBounds_toArray, List.set_cons_zero, List.set_cons_succ]) (hCont (.slice Ao12 t1091.length co12, .slice Ao14 t1096.length co14, v1102, gb1104) _ ⟨hHeld, (by (with_reducible repeat (first | apply Kd.N_alloc | apply Kd.N_drewN | apply Kd.N_drew)); exact Kd.N_mono HO1093.out (fun _ hk => ⟨hk.1.1.1.1, ⟨hk.1.2, ⟨hk.2, ⟨hk.1.1.1.2.1, ⟨hk.1.1.1.2.2, hk.1.1.2⟩⟩⟩⟩⟩)), (by (with_reducible repeat (first | apply Kd.N_alloc | apply Kd.N_drewN | apply Kd.N_drew)); exact Kd.N_mono HO1098.out (fun _ hk => ⟨hk.1.1, ⟨hk.1.2.1, ⟨hk.2, ⟨hk.1.2.2.1, ⟨hk.1.2.2.2.1, hk.1.2.2.2.2⟩⟩⟩⟩⟩)), (by (with_reducible repeat (first | apply Kd.N_alloc | apply Kd.N_drewN | apply Kd.N_drew)); exact HO1103.out), (bk_ BK1087), (bk_ BK1088), (bk_ BK1104), GW1104.out, GE1104.out, NB1087_1104.out, NB1104_1087.out, NB1088_1104.out, NB1104_1088.out, bel_⟩)
  ·skip
   refine box_step ?hg (N := 2) ?hd (cs := #[.bool false, .string (⟨#[]⟩ : ByteArray), .slice none 0 0]) (t := 24) ?hr ?_; (case hd => rfl); (case hg => rfl); (case hr => first | (go_simp; done) | (go_simp; rfl))
   intro gb1104 hg w10 hbox hb
   have n0_ := Aside0.mk (blk_below (g := gb1087) (o := .cells #[.slice none 0 0, .slice none 0 0] 94 (0, 0)) (bk_ BK1087) hb)
   have n1_ := Aside0.mk (blk_below (g := gb1088) (o := .cells #[.bool true, .string (⟨#[39, 97]⟩ : ByteArray), .slice none 0 0] 24 (0, 0)) (bk_ BK1088) hb)
   have n2_ := Aside0.mk (below_step bel_ hb)
   have n3_ := Aside0.mk (hbox)
   have n4_ := Aside0.mk ((by rw [hg]; exact (below_size bel_) : w.heap.size ≤ gb1104))
   have n5_ := Aside0.mk ((by rw [hg]; exact (below_size bel_) : w.heap.size ≤ gb1104))
   have n6_ := Aside0.mk ((by rw [hg]; exact Nat.ne_of_lt (blk_lt (g := gb1087) (o := .cells #[.slice none 0 0, .slice none 0 0] 94 (0, 0)) (bk_ BK1087)) : gb1087 ≠ gb1104))
   have n7_ := Aside0.mk ((by rw [hg]; exact Nat.ne_of_gt (blk_lt (g := gb1087) (o := .cells #[.slice none 0 0, .slice none 0 0] 94 (0, 0)) (bk_ BK1087)) : gb1104 ≠ gb1087))
   have n8_ := Aside0.mk ((by rw [hg]; exact Nat.ne_of_lt (blk_lt (g := gb1088) (o := .cells #[.bool true, .string (⟨#[39, 97]⟩ : ByteArray), .slice none 0 0] 24 (0, 0)) (bk_ BK1088)) : gb1088 ≠ gb1104))
   have n9_ := Aside0.mk ((by rw [hg]; exact Nat.ne_of_gt (blk_lt (g := gb1088) (o := .cells #[.bool true, .string (⟨#[39, 97]⟩ : ByteArray), .slice none 0 0] 24 (0, 0)) (bk_ BK1088)) : gb1104 ≠ gb1088))
   clear BK1087
   clear BK1088
   clear HB
   have BK1087 := n0_
   have BK1088 := n1_
   have HB := n2_
   have BK1104 := n3_
   have GW1104 := n4_
   have GE1104 := n5_
   have NB1087_1104 := n6_
   have NB1104_1087 := n7_
   have NB1088_1104 := n8_
   have NB1104_1088 := n9_
   clear n0_ n1_ n2_ n3_ n4_ n5_ n6_ n7_ n8_ n9_
   clear hb hbox hg
   refine hK.out _ _ ⟨(blk_cell BK1088.out 0).trans rfl, (blk_cell BK1088.out 1).trans rfl, (blk_cell BK1088.out 2).trans rfl⟩ (fun hHeld => ?_)
   clear hK K
   refine norm_ (a' := ?_) ?_ ?_
   rotate_left
   ·show Act.put _ (some 2) _ = _
    simp only [Act.put, List.setIfInBounds_toArray, List.set_cons_zero, List.set_cons_succ, i64_w, i32_w]
    rfl
   refine one_ (i := 2) (N := some 6) #[true, true, true, false, false, true, false] rfl rfl (by kernel_rfl) (by decide) (fun K hK => ?_)
   refine goes_ Try.func41 (by kernel_rfl) rfl #[] (by rfl) rfl rfl (by (try simp only [List.map_toArray, List.map_cons, List.map_nil]); first | done | rfl | (simp only [List.length_drop, List.length_take]; rfl)) ?_
   with_reducible refine (types_Bool.calls  t1089 t1090 t1091 _ A1.out).mono ?_
   rintro e w11 ⟨v1092, rfl, ho0, hb⟩
   refine ⟨_, rfl, ?_⟩
   have n0_ := Aside0.mk (Kd.N_lower (Kd.N_mono (ok' := fun k_ => (w.heap.size ≤ k_) ∧ k_ ≠ gb1087 ∧ k_ ≠ gb1088 ∧ k_ ≠ gb1104) (Kd.R_N (Kd.R_bound ho0)) (fun k_ hk_ => ⟨(Nat.le_trans (below_size bel_) hk_.2.1), (Kd.freshB (g := gb1087) (o := .cells #[.slice none 0 0, .slice none 0 0] 94 (0, 0)) (bk_ BK1087) k_ hk_.2.1), (Kd.freshB (g := gb1088) (o := .cells #[.bool true, .string (⟨#[39, 97]⟩ : ByteArray), .slice none 0 0] 24 (0, 0)) (bk_ BK1088) k_ hk_.2.1), (Kd.freshB (g := gb1104) (o := .cells #[.bool false, .string (⟨#[]⟩ : ByteArray), .slice none 0 0] 24 (0, 0)) (bk_ BK1104) k_ hk_.2.1)⟩)) (below_size bel_))
   have n1_ := Aside0.mk (blk_below (g := gb1087) (o := .cells #[.slice none 0 0, .slice none 0 0] 94 (0, 0)) (bk_ BK1087) hb)
   have n2_ := Aside0.mk (blk_below (g := gb1088) (o := .cells #[.bool true, .string (⟨#[39, 97]⟩ : ByteArray), .slice none 0 0] 24 (0, 0)) (bk_ BK1088) hb)
   have n3_ := Aside0.mk (blk_below (g := gb1104) (o := .cells #[.bool false, .string (⟨#[]⟩ : ByteArray), .slice none 0 0] 24 (0, 0)) (bk_ BK1104) hb)
   have n4_ := Aside0.mk (below_step bel_ hb)
   clear BK1087
   clear BK1088
   clear BK1104
   clear HB
   have HO1093 := n0_
   have BK1087 := n1_
   have BK1088 := n2_
   have BK1104 := n3_
   have HB := n4_
   clear n0_ n1_ n2_ n3_ n4_
   (try clear hb)
   (try clear hb2)
   (try clear hk)
   (try clear hi)
   (try clear ho0)
   obtain ⟨Ao12, co12, eo12⟩ := Kd.N_slice HO1093.out
   (first | subst eo12 | (injection eo12 with f1_ f2_ f3_; have f4_ := f1_.symm; have f5_ := f3_.symm; clear f1_ f2_ f3_; subst f4_; subst f5_))
   refine hK.out _ _ ⟨(blk_cell BK1088.out 0).trans rfl, (blk_cell BK1088.out 1).trans rfl, (blk_cell BK1088.out 2).trans rfl⟩ (fun hHeld => ?_)
   clear hK K
   refine norm_ (a' := ?_) ?_ ?_
   rotate_left
   ·show Act.put _ (some 6) _ = _
    simp only [Act.put, List.setIfInBounds_toArray, List.set_cons_zero, List.set_cons_succ, i64_w, i32_w]
    rfl
   refine one_ (i := 3) (N := some 7) #[true, true, true, true, false, true, false] rfl rfl (by kernel_rfl) (by decide) (fun K hK => ?_)
   refine goes_ Try.func42 (by kernel_rfl) rfl #[.agg #[.bool true, .string (⟨#[39, 97]⟩ : ByteArray), .slice none 0 0], .agg #[.bool t1089, .string t1090, .slice Ao12 t1091.length co12]] (by rfl) rfl rfl (by (try simp only [List.map_toArray, List.map_cons, List.map_nil]); first | done | rfl | (simp only [List.length_drop, List.length_take]; rfl)) ?_
   refine (types_Fun.calls true (⟨#[39, 97]⟩ : ByteArray) _ _ ([] : List (S24)) t1089 t1090 _ _ t1091 t1094 t1095 t1096 _ ?side1 ?side2 ?side3 ?side4 A2.out).mono ?_
   (case side1 => exact Kd.C_nil _ _)
   (case side2 => exact Nat.le_refl _)
   (case side3 => repeat (first | exact (Kd.N_reads' HO1093.out).2.2 | (with_reducible refine Kd.C_alloc ?_ _) | (with_reducible refine Kd.C_drewN ?_ _) | (with_reducible refine Kd.C_drew ?_)))
   (case side4 => exact (Kd.N_reads' HO1093.out).2.1)
   rintro e w13 ⟨v1097, rfl, ho0, hb⟩
   refine ⟨_, rfl, ?_⟩
   have n0_ := Aside0.mk (Kd.N_elder' (by (with_reducible repeat (first | apply Kd.N_alloc | apply Kd.N_drewN | apply Kd.N_drew)); exact HO1093.out) (by first | exact Kd.N_base ho0 | exact Kd.R_base ho0) hb)
   have n1_ := Aside0.mk (Kd.N_lower (Kd.N_mono (ok' := fun k_ => (w.heap.size ≤ k_) ∧ some k_ ≠ (.slice Ao12 t1091.length co12 : Value).ownBlock ∧ k_ ≠ gb1087 ∧ k_ ≠ gb1088 ∧ k_ ≠ gb1104) ho0 (fun k_ hk_ => ⟨(Nat.le_trans (below_size bel_) hk_), (Kd.fresh' (Kd.N_lt (by (with_reducible repeat (first | apply Kd.N_alloc | apply Kd.N_drewN | apply Kd.N_drew)); exact HO1093.out)) k_ hk_), (Kd.freshB (g := gb1087) (o := .cells #[.slice none 0 0, .slice none 0 0] 94 (0, 0)) (bk_ BK1087) k_ hk_), (Kd.freshB (g := gb1088) (o := .cells #[.bool true, .string (⟨#[39, 97]⟩ : ByteArray), .slice none 0 0] 24 (0, 0)) (bk_ BK1088) k_ hk_), (Kd.freshB (g := gb1104) (o := .cells #[.bool false, .string (⟨#[]⟩ : ByteArray), .slice none 0 0] 24 (0, 0)) (bk_ BK1104) k_ hk_)⟩)) (below_size bel_))
   have n2_ := Aside0.mk (blk_below (g := gb1087) (o := .cells #[.slice none 0 0, .slice none 0 0] 94 (0, 0)) (bk_ BK1087) hb)
   have n3_ := Aside0.mk (blk_below (g := gb1088) (o := .cells #[.bool true, .string (⟨#[39, 97]⟩ : ByteArray), .slice none 0 0] 24 (0, 0)) (bk_ BK1088) hb)
   have n4_ := Aside0.mk (blk_below (g := gb1104) (o := .cells #[.bool false, .string (⟨#[]⟩ : ByteArray), .slice none 0 0] 24 (0, 0)) (bk_ BK1104) hb)
   have n5_ := Aside0.mk (below_step bel_ hb)
   clear HO1093
   clear BK1087
   clear BK1088
   clear BK1104
   clear HB
   have HO1093 := n0_
   have HO1098 := n1_
   have BK1087 := n2_
   have BK1088 := n3_
   have BK1104 := n4_
   have HB := n5_
   clear n0_ n1_ n2_ n3_ n4_ n5_
   (try clear hb)
   (try clear hb2)
   (try clear hk)
   (try clear hi)
   (try clear ho0)
   obtain ⟨Ao14, co14, eo14⟩ := Kd.N_slice HO1098.out
   (first | subst eo14 | (injection eo14 with f1_ f2_ f3_; have f4_ := f1_.symm; have f5_ := f3_.symm; clear f1_ f2_ f3_; subst f4_; subst f5_))
   refine hK.out _ _ ⟨(blk_cell BK1088.out 0).trans rfl, (blk_cell BK1088.out 1).trans rfl, (blk_cell BK1088.out 2).trans rfl⟩ (fun hHeld => ?_)
   clear hK K
   refine norm_ (a' := ?_) ?_ ?_
   rotate_left
   ·show Act.put _ (some 7) _ = _
    simp only [Act.put, List.setIfInBounds_toArray, List.set_cons_zero, List.set_cons_succ, i64_w, i32_w]
    rfl
   refine one_ (i := 4) (N := some 8) #[true, true, true, true, true, true, false] rfl rfl (by kernel_rfl) (by decide) (fun K hK => ?_)
   refine goes_ Try.func42 (by kernel_rfl) rfl #[.agg #[.bool true, .string (⟨#[39, 97]⟩ : ByteArray), .slice none 0 0], .agg #[.bool t1094, .string t1095, .slice Ao14 t1096.length co14]] (by rfl) rfl rfl (by (try simp only [List.map_toArray, List.map_cons, List.map_nil]); first | done | rfl | (simp only [List.length_drop, List.length_take]; rfl)) ?_
   refine (types_Fun.calls true (⟨#[39, 97]⟩ : ByteArray) _ _ ([] : List (S24)) t1094 t1095 _ _ t1096 t1099 t1100 t1101 _ ?side1 ?side2 ?side3 ?side4 A3.out).mono ?_
   (case side1 => exact Kd.C_nil _ _)
   (case side2 => exact Nat.le_refl _)
   (case side3 => repeat (first | exact (Kd.N_reads' HO1098.out).2.2 | (with_reducible refine Kd.C_alloc ?_ _) | (with_reducible refine Kd.C_drewN ?_ _) | (with_reducible refine Kd.C_drew ?_)))
   (case side4 => exact (Kd.N_reads' HO1098.out).2.1)
   rintro e w15 ⟨v1102, rfl, ho0, hb⟩
   refine ⟨_, rfl, ?_⟩
   have n0_ := Aside0.mk (Kd.N_elder' (by (with_reducible repeat (first | apply Kd.N_alloc | apply Kd.N_drewN | apply Kd.N_drew)); exact HO1093.out) (by first | exact Kd.N_base ho0 | exact Kd.R_base ho0) hb)
   have n1_ := Aside0.mk (Kd.N_elder' (by (with_reducible repeat (first | apply Kd.N_alloc | apply Kd.N_drewN | apply Kd.N_drew)); exact HO1098.out) (by first | exact Kd.N_base ho0 | exact Kd.R_base ho0) hb)
   have n2_ := Aside0.mk (Kd.N_lower (Kd.N_mono (ok' := fun k_ => (w.heap.size ≤ k_) ∧ some k_ ≠ (.slice Ao12 t1091.length co12 : Value).ownBlock ∧ some k_ ≠ (.slice Ao14 t1096.length co14 : Value).ownBlock ∧ k_ ≠ gb1087 ∧ k_ ≠ gb1088 ∧ k_ ≠ gb1104) ho0 (fun k_ hk_ => ⟨(Nat.le_trans (below_size bel_) hk_), (Kd.fresh' (Kd.N_lt (by (with_reducible repeat (first | apply Kd.N_alloc | apply Kd.N_drewN | apply Kd.N_drew)); exact HO1093.out)) k_ hk_), (Kd.fresh' (Kd.N_lt (by (with_reducible repeat (first | apply Kd.N_alloc | apply Kd.N_drewN | apply Kd.N_drew)); exact HO1098.out)) k_ hk_), (Kd.freshB (g := gb1087) (o := .cells #[.slice none 0 0, .slice none 0 0] 94 (0, 0)) (bk_ BK1087) k_ hk_), (Kd.freshB (g := gb1088) (o := .cells #[.bool true, .string (⟨#[39, 97]⟩ : ByteArray), .slice none 0 0] 24 (0, 0)) (bk_ BK1088) k_ hk_), (Kd.freshB (g := gb1104) (o := .cells #[.bool false, .string (⟨#[]⟩ : ByteArray), .slice none 0 0] 24 (0, 0)) (bk_ BK1104) k_ hk_)⟩)) (below_size bel_))
   have n3_ := Aside0.mk (blk_below (g := gb1087) (o := .cells #[.slice none 0 0, .slice none 0 0] 94 (0, 0)) (bk_ BK1087) hb)
   have n4_ := Aside0.mk (blk_below (g := gb1088) (o := .cells #[.bool true, .string (⟨#[39, 97]⟩ : ByteArray), .slice none 0 0] 24 (0, 0)) (bk_ BK1088) hb)
   have n5_ := Aside0.mk (blk_below (g := gb1104) (o := .cells #[.bool false, .string (⟨#[]⟩ : ByteArray), .slice none 0 0] 24 (0, 0)) (bk_ BK1104) hb)
   have n6_ := Aside0.mk (below_step bel_ hb)
   clear HO1093
   clear HO1098
   clear BK1087
   clear BK1088
   clear BK1104
   clear HB
   have HO1093 := n0_
   have HO1098 := n1_
   have HO1103 := n2_
   have BK1087 := n3_
   have BK1088 := n4_
   have BK1104 := n5_
   have HB := n6_
   clear n0_ n1_ n2_ n3_ n4_ n5_ n6_
   (try clear hb)
   (try clear hb2)
   (try clear hk)
   (try clear hi)
   (try clear ho0)
   refine hK.out _ _ ⟨(blk_cell BK1088.out 0).trans rfl, (blk_cell BK1088.out 1).trans rfl, (blk_cell BK1088.out 2).trans rfl⟩ (fun hHeld => ?_)
   clear hK K
   refine norm_ (a' := ?_) ?_ ?_
   rotate_left
   ·show Act.put _ (some 8) _ = _
    simp only [Act.put, List.setIfInBounds_toArray, List.set_cons_zero, List.set_cons_succ, i64_w, i32_w]
    rfl
   exact norm_ (by simp only [putAll, Act.put, List.setIfInBounds_toArray, List.set_cons_zero, List.set_cons_succ]) (hCont (.slice Ao12 t1091.length co12, .slice Ao14 t1096.length co14, v1102, gb1104) _ ⟨hHeld, (by (with_reducible repeat (first | apply Kd.N_alloc | apply Kd.N_drewN | apply Kd.N_drew)); exact Kd.N_mono HO1093.out (fun _ hk => ⟨hk.1.1.1, ⟨hk.1.2, ⟨hk.2, ⟨hk.1.1.2.1, ⟨hk.1.1.2.2.1, hk.1.1.2.2.2⟩⟩⟩⟩⟩)), (by (with_reducible repeat (first | apply Kd.N_alloc | apply Kd.N_drewN | apply Kd.N_drew)); exact Kd.N_mono HO1098.out (fun _ hk => ⟨hk.1.1, ⟨hk.1.2.1, ⟨hk.2, ⟨hk.1.2.2.1, ⟨hk.1.2.2.2.1, hk.1.2.2.2.2⟩⟩⟩⟩⟩)), (by (with_reducible repeat (first | apply Kd.N_alloc | apply Kd.N_drewN | apply Kd.N_drew)); exact HO1103.out), (bk_ BK1087), (bk_ BK1088), (bk_ BK1104), GW1104.out, GE1104.out, NB1087_1104.out, NB1104_1087.out, NB1088_1104.out, NB1104_1088.out, bel_⟩)
 rintro ⟨v1092, v1097, v1102, gb1104⟩ w16 ⟨hS_, h0_, h1_, h2_, h3_, h4_, h5_, h6_, h7_, h8_, h9_, h10_, h11_, h12_⟩
 have n0_ : Aside0 (Kd.N k24 24 w16 w.heap.size (fun k_ => (w.heap.size ≤ k_) ∧ some k_ ≠ (v1097 : Value).ownBlock ∧ some k_ ≠ (v1102 : Value).ownBlock ∧ k_ ≠ gb1087 ∧ k_ ≠ gb1088 ∧ k_ ≠ gb1104) v1092 t1091) := ⟨h0_⟩
 have n1_ : Aside0 (Kd.N k24 24 w16 w.heap.size (fun k_ => (w.heap.size ≤ k_) ∧ some k_ ≠ (v1092 : Value).ownBlock ∧ some k_ ≠ (v1102 : Value).ownBlock ∧ k_ ≠ gb1087 ∧ k_ ≠ gb1088 ∧ k_ ≠ gb1104) v1097 t1096) := ⟨h1_⟩
 have n2_ : Aside0 (Kd.N k24 24 w16 w.heap.size (fun k_ => (w.heap.size ≤ k_) ∧ some k_ ≠ (v1092 : Value).ownBlock ∧ some k_ ≠ (v1097 : Value).ownBlock ∧ k_ ≠ gb1087 ∧ k_ ≠ gb1088 ∧ k_ ≠ gb1104) v1102 t1101) := ⟨h2_⟩
 have n3_ : Aside0 (w16.heap[gb1087]? = some (.cells #[.slice none 0 0, .slice none 0 0] 94 (0, 0))) := ⟨h3_⟩
 have n4_ : Aside0 (w16.heap[gb1088]? = some (.cells #[.bool true, .string (⟨#[39, 97]⟩ : ByteArray), .slice none 0 0] 24 (0, 0))) := ⟨h4_⟩
 have n5_ : Aside0 (w16.heap[gb1104]? = some (.cells #[.bool false, .string (⟨#[]⟩ : ByteArray), .slice none 0 0] 24 (0, 0))) := ⟨h5_⟩
 have n6_ : Aside0 (w.heap.size ≤ gb1104) := ⟨h6_⟩
 have n7_ : Aside0 (w.heap.size ≤ gb1104) := ⟨h7_⟩
 have n8_ : Aside0 (gb1087 ≠ gb1104) := ⟨h8_⟩
 have n9_ : Aside0 (gb1104 ≠ gb1087) := ⟨h9_⟩
 have n10_ : Aside0 (gb1088 ≠ gb1104) := ⟨h10_⟩
 have n11_ : Aside0 (gb1104 ≠ gb1088) := ⟨h11_⟩
 have n12_ : Aside0 (Below w.heap.size w w16) := ⟨h12_⟩
 clear BK1087
 clear BK1088
 clear HB
 clear h0_ h1_ h2_ h3_ h4_ h5_ h6_ h7_ h8_ h9_ h10_ h11_ h12_
 have HO1093 := n0_
 have HO1098 := n1_
 have HO1103 := n2_
 have BK1087 := n3_
 have BK1088 := n4_
 have BK1104 := n5_
 have GW1104 := n6_
 have GE1104 := n7_
 have NB1087_1104 := n8_
 have NB1104_1087 := n9_
 have NB1088_1104 := n10_
 have NB1104_1088 := n11_
 have HB := n12_
 clear n0_ n1_ n2_ n3_ n4_ n5_ n6_ n7_ n8_ n9_ n10_ n11_ n12_
 have hHeld : w16.cell? ⟨gb1088, 0, none⟩ = some (.bool true) ∧ w16.cell? ⟨gb1088, 1, none⟩ = some (.string (⟨#[39, 97]⟩ : ByteArray)) ∧ w16.cell? ⟨gb1088, 2, none⟩ = some (.slice none 0 0) := hS_
 obtain ⟨Ao19, co19, eo19⟩ := Kd.N_slice HO1103.out
 (first | subst eo19 | (injection eo19 with f1_ f2_ f3_; have f4_ := f1_.symm; have f5_ := f3_.symm; clear f1_ f2_ f3_; subst f4_; subst f5_))
 refine norm_ (a' := ?_) ?_ ?_
 rotate_left
 ·simp only [putAll, Act.put, List.setIfInBounds_toArray, List.set_cons_zero, List.set_cons_succ]
  rfl
 refine one_ (i := 6) (N := none) #[true, true, true, true, true, true, true] rfl rfl (by kernel_rfl) (by decide) (fun K hK => ?_)
 have hs17 : w16.cell? ⟨gb1104, 0, none⟩ = some (.bool false) := (blk_cell BK1104.out 0).trans rfl
 have hfs17 := blk_frozen BK1104.out 0
 have hns17_0 := NB1087_1104.out
 have hns17_1 := NB1088_1104.out
 have hms17_0 := NB1104_1087.out
 have hms17_1 := NB1104_1088.out
 have hs18 : w16.cell? ⟨gb1104, 1, none⟩ = some (.string (⟨#[]⟩ : ByteArray)) := (blk_cell BK1104.out 1).trans rfl
 have hfs18 := blk_frozen BK1104.out 1
 have hns18_0 := NB1087_1104.out
 have hns18_1 := NB1088_1104.out
 have hms18_0 := NB1104_1087.out
 have hms18_1 := NB1104_1088.out
 have hs20 : w16.cell? ⟨gb1104, 2, none⟩ = some (.slice none 0 0) := (blk_cell BK1104.out 2).trans rfl
 have hfs20 := blk_frozen BK1104.out 2
 have hns20_0 := NB1087_1104.out
 have hns20_1 := NB1088_1104.out
 have hms20_0 := NB1104_1087.out
 have hms20_1 := NB1104_1088.out
 refine skip_ (w1 := ?_) (by rfl) rfl ?_ ?_
 rotate_left
 ·go_simp
  rfl
 refine hK.out _ _ ⟨((cell_far (p := ⟨gb1104, _, none⟩) NB1088_1104.out _).trans (((cell_far (p := ⟨gb1104, _, none⟩) NB1088_1104.out _).trans (((cell_far (p := ⟨gb1104, _, none⟩) NB1088_1104.out _).trans (hHeld.1)))))), ((cell_far (p := ⟨gb1104, _, none⟩) NB1088_1104.out _).trans (((cell_far (p := ⟨gb1104, _, none⟩) NB1088_1104.out _).trans (((cell_far (p := ⟨gb1104, _, none⟩) NB1088_1104.out _).trans (hHeld.2.1)))))), ((cell_far (p := ⟨gb1104, _, none⟩) NB1088_1104.out _).trans (((cell_far (p := ⟨gb1104, _, none⟩) NB1088_1104.out _).trans (((cell_far (p := ⟨gb1104, _, none⟩) NB1088_1104.out _).trans (hHeld.2.2))))))⟩ (fun hHeld => ?_)
 clear hK K
 refine done_ (by kernel_rfl) ?_
 try go_wp2_with (first | ((with_reducible refine gate_dst (N := 11) rfl ?_); refine Kd.R_lit k106 _ 106 ?hg (N := 11) ?hd (xs := ([(⟨(⟨#[98, 111, 111, 108]⟩ : ByteArray), 0⟩ : S106), (⟨(⟨#[102, 117, 110]⟩ : ByteArray), 2⟩ : S106)] : List (S106))) (inner := [.string (⟨#[98, 111, 111, 108]⟩ : ByteArray), .int .i64 0, .string (⟨#[102, 117, 110]⟩ : ByteArray), .int .i64 2]) (ok := fun _ => True) (okp := fun _ => True) ?hr ?hp (fun _ hk => hk) trivial (Below.refl _ _) (Nat.le_refl _) (by simp) ?_; (case hd => rfl); (case hg => rfl); (case hr => first | (go_simp; done) | (go_simp; rfl)); (case hp => exact (Reps.c2 (show Kd.M k106 _ _ _ (⟨(⟨#[98, 111, 111, 108]⟩ : ByteArray), 0⟩ : S106) [.string (⟨#[98, 111, 111, 108]⟩ : ByteArray), .int .i64 0] from (k106_mkM _ _ _ (⟨(⟨#[98, 111, 111, 108]⟩ : ByteArray), 0⟩ : S106) )) (Reps.c2 (show Kd.M k106 _ _ _ (⟨(⟨#[102, 117, 110]⟩ : ByteArray), 2⟩ : S106) [.string (⟨#[102, 117, 110]⟩ : ByteArray), .int .i64 2] from (k106_mkM _ _ _ (⟨(⟨#[102, 117, 110]⟩ : ByteArray), 2⟩ : S106) )) (Reps.none _ _)))); intro v1106 w21 ho22 hb hg_ hnew_; clear hg_ hnew_; (first | rw [← Ny1105.out] at ho22 | (simp only [Int.reduceToNat] at ho22; rw [← Ny1105.out] at ho22)); have n0_ := Aside0.mk (Kd.N_elder' (by (with_reducible repeat (first | apply Kd.N_alloc | apply Kd.N_drewN | apply Kd.N_drew)); exact (Kd.N_mono (Kd.N_far (p := ⟨gb1104, 2, none⟩) (Kd.N_far (p := ⟨gb1104, 1, none⟩) (Kd.N_far (p := ⟨gb1104, 0, none⟩) (Kd.N_mono HO1093.out (fun k_ hk => (⟨hk, hk.2.2.2.2.2⟩ : _ ∧ k_ ≠ gb1104))) (fun _ hk => hk.2) (.bool t1099)) (fun _ hk => hk.2) (.string t1100)) (fun _ hk => hk.2) (.slice Ao19 t1101.length co19)) (fun _ h_ => h_.1))) (Kd.R_base ho22) hb); have n1_ := Aside0.mk (Kd.N_elder' (by (with_reducible repeat (first | apply Kd.N_alloc | apply Kd.N_drewN | apply Kd.N_drew)); exact (Kd.N_mono (Kd.N_far (p := ⟨gb1104, 2, none⟩) (Kd.N_far (p := ⟨gb1104, 1, none⟩) (Kd.N_far (p := ⟨gb1104, 0, none⟩) (Kd.N_mono HO1098.out (fun k_ hk => (⟨hk, hk.2.2.2.2.2⟩ : _ ∧ k_ ≠ gb1104))) (fun _ hk => hk.2) (.bool t1099)) (fun _ hk => hk.2) (.string t1100)) (fun _ hk => hk.2) (.slice Ao19 t1101.length co19)) (fun _ h_ => h_.1))) (Kd.R_base ho22) hb); have n2_ := Aside0.mk (Kd.N_elder' (by (with_reducible repeat (first | apply Kd.N_alloc | apply Kd.N_drewN | apply Kd.N_drew)); exact (Kd.N_mono (Kd.N_far (p := ⟨gb1104, 2, none⟩) (Kd.N_far (p := ⟨gb1104, 1, none⟩) (Kd.N_far (p := ⟨gb1104, 0, none⟩) (Kd.N_mono HO1103.out (fun k_ hk => (⟨hk, hk.2.2.2.2.2⟩ : _ ∧ k_ ≠ gb1104))) (fun _ hk => hk.2) (.bool t1099)) (fun _ hk => hk.2) (.string t1100)) (fun _ hk => hk.2) (.slice Ao19 t1101.length co19)) (fun _ h_ => h_.1))) (Kd.R_base ho22) hb); have n3_ := Aside0.mk (Kd.R_lower (Kd.R_newM (M := fun k_ => (w.heap.size ≤ k_)) ho22 (below_size bel_) (fun k_ h_ => h_)) (below_size bel_)); have n4_ := Aside0.mk (blk_below (g := gb1087) (o := .cells #[.slice none 0 0, .slice none 0 0] 94 (0, 0)) (by (with_reducible repeat (first | refine blk_drewN ?_ _ | refine blk_drew ?_ | refine blk_alloc ?_ _)); refine blk_far ?_ NB1087_1104.out _; (with_reducible repeat (first | refine blk_drewN ?_ _ | refine blk_drew ?_ | refine blk_alloc ?_ _)); refine blk_far ?_ NB1087_1104.out _; (with_reducible repeat (first | refine blk_drewN ?_ _ | refine blk_drew ?_ | refine blk_alloc ?_ _)); refine blk_far ?_ NB1087_1104.out _; (with_reducible repeat (first | refine blk_drewN ?_ _ | refine blk_drew ?_ | refine blk_alloc ?_ _)); exact BK1087.out) hb); have n5_ := Aside0.mk (blk_below (g := gb1088) (o := .cells #[.bool true, .string (⟨#[39, 97]⟩ : ByteArray), .slice none 0 0] 24 (0, 0)) (by (with_reducible repeat (first | refine blk_drewN ?_ _ | refine blk_drew ?_ | refine blk_alloc ?_ _)); refine blk_far ?_ NB1088_1104.out _; (with_reducible repeat (first | refine blk_drewN ?_ _ | refine blk_drew ?_ | refine blk_alloc ?_ _)); refine blk_far ?_ NB1088_1104.out _; (with_reducible repeat (first | refine blk_drewN ?_ _ | refine blk_drew ?_ | refine blk_alloc ?_ _)); refine blk_far ?_ NB1088_1104.out _; (with_reducible repeat (first | refine blk_drewN ?_ _ | refine blk_drew ?_ | refine blk_alloc ?_ _)); exact BK1088.out) hb); have n6_ := Aside0.mk (blk_below (g := gb1104) (o := .cells #[.bool t1099, .string t1100, .slice Ao19 t1101.length co19] 24 (0, 0)) (by (with_reducible repeat (first | refine blk_drewN ?_ _ | refine blk_drew ?_ | refine blk_alloc ?_ _)); refine blk_put (cs := #[.bool t1099, .string t1100, .slice none 0 0]) ?_ 2 _ rfl; (with_reducible repeat (first | refine blk_drewN ?_ _ | refine blk_drew ?_ | refine blk_alloc ?_ _)); refine blk_put (cs := #[.bool t1099, .string (⟨#[]⟩ : ByteArray), .slice none 0 0]) ?_ 1 _ rfl; (with_reducible repeat (first | refine blk_drewN ?_ _ | refine blk_drew ?_ | refine blk_alloc ?_ _)); refine blk_put (cs := #[.bool false, .string (⟨#[]⟩ : ByteArray), .slice none 0 0]) ?_ 0 _ rfl; (with_reducible repeat (first | refine blk_drewN ?_ _ | refine blk_drew ?_ | refine blk_alloc ?_ _)); exact BK1104.out) hb); have n7_ := Aside0.mk (below_step bel_ hb); clear HO1093; clear HO1098; clear HO1103; clear BK1087; clear BK1088; clear BK1104; clear HB; have HO1093 := n0_; have HO1098 := n1_; have HO1103 := n2_; have HO1107 := n3_; have BK1087 := n4_; have BK1088 := n5_; have BK1104 := n6_; have HB := n7_; clear n0_ n1_ n2_ n3_ n4_ n5_ n6_ n7_; clear hb ho22; have hnb23 := NB1104_1087.out; have hnc23 := NB1087_1104.out; have hnb24 := NB1104_1088.out; have hnc24 := NB1088_1104.out; have hcz25_0 : w21.cell? ⟨gb1104, 0, none⟩ = some (.bool t1099) := (blk_cell BK1104.out 0).trans rfl; have hcz25_1 : w21.cell? ⟨gb1104, 1, none⟩ = some (.string t1100) := (blk_cell BK1104.out 1).trans rfl; have hcz25_2 : w21.cell? ⟨gb1104, 2, none⟩ = some (.slice Ao19 t1101.length co19) := (blk_cell BK1104.out 2).trans rfl; have hfz25_0 := blk_frozen BK1104.out 0; have hfz25_1 := blk_frozen BK1104.out 1; have hfz25_2 := blk_frozen BK1104.out 2) | ((with_reducible refine gate_dst (N := 14) rfl ?_); refine Kd.N_lit k108 _ 108 ?hg (N' := 14) ?hd (xs := ([(⟨(⟨#[61]⟩ : ByteArray), (⟨t1099, t1100, t1101⟩ : S24)⟩ : S108)] : List (S108))) (inner := [.string (⟨#[61]⟩ : ByteArray), .bool t1099, .string t1100, .slice Ao19 t1101.length co19]) (ok := (fun k_ => (w.heap.size ≤ k_) ∧ some k_ ≠ (v1092 : Value).ownBlock ∧ some k_ ≠ (v1097 : Value).ownBlock ∧ some k_ ≠ (v1106 : Value).ownBlock ∧ k_ ≠ gb1087 ∧ k_ ≠ gb1088 ∧ k_ ≠ gb1104)) (okp := (fun k_ => (w.heap.size ≤ k_) ∧ some k_ ≠ (v1092 : Value).ownBlock ∧ some k_ ≠ (v1097 : Value).ownBlock ∧ some k_ ≠ (v1106 : Value).ownBlock ∧ k_ ≠ gb1087 ∧ k_ ≠ gb1088 ∧ k_ ≠ gb1104)) ?hr ?hp (fun _ hk => hk) ((show ∀ k_, w21.heap.size ≤ k_ → (fun k_ => (w.heap.size ≤ k_) ∧ some k_ ≠ (v1092 : Value).ownBlock ∧ some k_ ≠ (v1097 : Value).ownBlock ∧ some k_ ≠ (v1106 : Value).ownBlock ∧ k_ ≠ gb1087 ∧ k_ ≠ gb1088 ∧ k_ ≠ gb1104) k_ from fun k_ hk => ⟨(Nat.le_trans (below_size bel_) hk), Kd.fresh' (Kd.N_lt (by (with_reducible repeat (first | apply Kd.N_alloc | apply Kd.N_drewN | apply Kd.N_drew)); exact HO1093.out)) k_ hk, Kd.fresh' (Kd.N_lt (by (with_reducible repeat (first | apply Kd.N_alloc | apply Kd.N_drewN | apply Kd.N_drew)); exact HO1098.out)) k_ hk, Kd.fresh' (Kd.R_lt (by (with_reducible repeat (first | apply Kd.R_alloc | apply Kd.R_drewN | apply Kd.R_drew)); exact HO1107.out)) k_ hk, Kd.freshB (g := gb1087) (o := .cells #[.slice none 0 0, .slice none 0 0] 94 (0, 0)) (bk_ BK1087) k_ hk, Kd.freshB (g := gb1088) (o := .cells #[.bool true, .string (⟨#[39, 97]⟩ : ByteArray), .slice none 0 0] 24 (0, 0)) (bk_ BK1088) k_ hk, Kd.freshB (g := gb1104) (o := .cells #[.bool t1099, .string t1100, .slice Ao19 t1101.length co19] 24 (0, 0)) (bk_ BK1104) k_ hk⟩) _ (Nat.le_refl _)) (Below.refl _ _) (Nat.le_refl _) (by simp) ?_; (case hd => rfl); (case hg => rfl); (case hr => first | (go_simp; done) | (go_simp; rfl)); (case hp => exact (Reps.c4 (show Kd.FK k108 _ _ (⟨(⟨#[61]⟩ : ByteArray), (⟨t1099, t1100, t1101⟩ : S24)⟩ : S108) [.string (⟨#[61]⟩ : ByteArray), .bool t1099, .string t1100, .slice Ao19 t1101.length co19] from (k108_mkF _ _ (⟨(⟨#[61]⟩ : ByteArray), (⟨t1099, t1100, t1101⟩ : S24)⟩ : S108) (Kd.N_reads' (Kd.N_mono (ok' := (fun k_ => (w.heap.size ≤ k_) ∧ some k_ ≠ (v1092 : Value).ownBlock ∧ some k_ ≠ (v1097 : Value).ownBlock ∧ some k_ ≠ (v1106 : Value).ownBlock ∧ k_ ≠ gb1087 ∧ k_ ≠ gb1088 ∧ k_ ≠ gb1104)) (HO1103.out) (fun k_ hk => ⟨hk.1.1, ⟨hk.1.2.1, ⟨hk.1.2.2.1, ⟨hk.2, ⟨hk.1.2.2.2.1, ⟨hk.1.2.2.2.2.1, hk.1.2.2.2.2.2⟩⟩⟩⟩⟩⟩))).2.1 (Kd.N_F (Kd.N_mono (ok' := (fun k_ => (w.heap.size ≤ k_) ∧ some k_ ≠ (v1092 : Value).ownBlock ∧ some k_ ≠ (v1097 : Value).ownBlock ∧ some k_ ≠ (v1106 : Value).ownBlock ∧ k_ ≠ gb1087 ∧ k_ ≠ gb1088 ∧ k_ ≠ gb1104)) (HO1103.out) (fun k_ hk => ⟨hk.1.1, ⟨hk.1.2.1, ⟨hk.1.2.2.1, ⟨hk.2, ⟨hk.1.2.2.2.1, ⟨hk.1.2.2.2.2.1, hk.1.2.2.2.2.2⟩⟩⟩⟩⟩⟩))))) (Reps.none _ _))); intro v1109 w26 ho27 hb hg_ hnew_; clear hg_ hnew_; (first | rw [← Ny1108.out] at ho27 | (simp only [Int.reduceToNat] at ho27; rw [← Ny1108.out] at ho27)); have n0_ := Aside0.mk (Kd.N_elder' (by (with_reducible repeat (first | apply Kd.N_alloc | apply Kd.N_drewN | apply Kd.N_drew)); exact HO1093.out) (by first | exact Kd.N_base ho27 | exact Kd.R_base ho27) hb); have n1_ := Aside0.mk (Kd.N_elder' (by (with_reducible repeat (first | apply Kd.N_alloc | apply Kd.N_drewN | apply Kd.N_drew)); exact HO1098.out) (by first | exact Kd.N_base ho27 | exact Kd.R_base ho27) hb); have n2_ := Aside0.mk (Kd.R_below (by (with_reducible repeat (first | apply Kd.R_alloc | apply Kd.R_drewN | apply Kd.R_drew)); exact HO1107.out) hb); have n3_ := Aside0.mk (Kd.N_lower ho27 (below_size bel_)); have n4_ := Aside0.mk (blk_below (g := gb1087) (o := .cells #[.slice none 0 0, .slice none 0 0] 94 (0, 0)) (bk_ BK1087) hb); have n5_ := Aside0.mk (blk_below (g := gb1088) (o := .cells #[.bool true, .string (⟨#[39, 97]⟩ : ByteArray), .slice none 0 0] 24 (0, 0)) (bk_ BK1088) hb); have n6_ := Aside0.mk (blk_below (g := gb1104) (o := .cells #[.bool t1099, .string t1100, .slice Ao19 t1101.length co19] 24 (0, 0)) (bk_ BK1104) hb); have n7_ := Aside0.mk (below_step bel_ hb); clear HO1093; clear HO1098; clear HO1107; clear BK1087; clear BK1088; clear BK1104; clear HB; clear HO1103; have HO1093 := n0_; have HO1098 := n1_; have HO1107 := n2_; have HO1110 := n3_; have BK1087 := n4_; have BK1088 := n5_; have BK1104 := n6_; have HB := n7_; clear n0_ n1_ n2_ n3_ n4_ n5_ n6_ n7_; clear hb ho27; obtain ⟨Ao28, co28, eo28⟩ := Kd.N_slice HO1110.out; subst eo28; obtain ⟨Ao29, co29, eo29⟩ := Kd.R_slice HO1107.out; subst eo29; have hcz30_0 : w26.cell? ⟨gb1087, 0, none⟩ = some (.slice none 0 0) := (blk_cell BK1087.out 0).trans rfl; have hcz30_1 : w26.cell? ⟨gb1087, 1, none⟩ = some (.slice none 0 0) := (blk_cell BK1087.out 1).trans rfl; have hfz30_0 := blk_frozen BK1087.out 0; have hfz30_1 := blk_frozen BK1087.out 1))
 refine bodyPost_ret (results_cell_row rfl _ _ gb1087 94 #[.slice Ao29 y1105.length co29, .slice Ao28 y1108.length co28] (0, 0) _ rfl (by (with_reducible repeat (first | refine blk_drewN ?_ _ | refine blk_drew ?_ | refine blk_alloc ?_ _)); refine blk_put (cs := #[.slice Ao29 y1105.length co29, .slice none 0 0]) ?_ 1 _ rfl; (with_reducible repeat (first | refine blk_drewN ?_ _ | refine blk_drew ?_ | refine blk_alloc ?_ _)); refine blk_put (cs := #[.slice none 0 0, .slice none 0 0]) ?_ 0 _ rfl; (with_reducible repeat (first | refine blk_drewN ?_ _ | refine blk_drew ?_ | refine blk_alloc ?_ _)); exact BK1087.out) Try.underlying94 rfl (by kernel_rfl)) rfl ?_
 exact ⟨_, _, by first | rfl | (simp [errW_none, errW_some] <;> rfl) | (simp [*, errW_none, errW_some] <;> rfl), by (with_reducible repeat (first | apply Kd.R_alloc | apply Kd.R_drewN | apply Kd.R_drew)); exact Kd.R_mono (Kd.R_far (p := ⟨gb1087, 1, none⟩) (Kd.R_far (p := ⟨gb1087, 0, none⟩) (Kd.R_types HO1107.out BK1087.out (by decide)) (fun _ hk => hk.2) (.slice Ao29 y1105.length co29)) (fun _ hk => hk.2) (.slice Ao28 y1108.length co28)) (fun _ hk => hk.1.1), by (with_reducible repeat (first | apply Kd.N_alloc | apply Kd.N_drewN | apply Kd.N_drew)); exact Kd.N_mono (Kd.N_far (p := ⟨gb1087, 1, none⟩) (Kd.N_far (p := ⟨gb1087, 0, none⟩) (Kd.N_mono HO1110.out (fun k_ hk => (⟨hk, hk.2.2.2.2.1⟩ : _ ∧ k_ ≠ gb1087))) (fun _ hk => hk.2) (.slice Ao29 y1105.length co29)) (fun _ hk => hk.2) (.slice Ao28 y1108.length co28)) (fun _ hk => ⟨hk.1.1, hk.1.2.2.2.1⟩), bel_⟩

end Go.Proofs.Ytecplbgdalchdaa.Q
