/- Proved here: parts of the proof of a given statement (HRowSignatureTells): contracts of the functions that it reaches, what they answer, and in the last text the statement itself. Conditions: those that each theorem names. -/
import Derived.Test.YtecplbgdalchdaaZSTX10
import Derived.Test.YtecplbgdalchdaaZSTX11
import Derived.Test.YtecplbgdalchdaaZSTX14
import Derived.Test.YtecplbgdalchdaaZSTX13
import Derived.Test.YtecplbgdalchdaaZSTX15
import Derived.Test.YtecplbgdalchdaaZSTX16
import Derived.Test.YtecplbgdalchdaaZSTX12
import Derived.Test.YtecplbgdalchdaaZSTX7
import Derived.BigQuiet
import Derived.Deep.RegionHeld3
/- Proved here: the reference's functions on signatures answer as the program's. Conditions: those that each theorem names. -/
namespace Go.Proofs.Ytecplbgdalchdaa.Q
open Go.RowKit Go.Shelf Go.Proofs.YtecplbgdalchdaaW.PrintWords Go.Proofs.YtecplbgdalchdaaW.PrintMore
set_option linter.unusedVariables false
set_option linter.unusedSimpArgs false

theorem rdTO (l : List S106) (j : Nat) (h : j < l.length) : rd_T106 l (j : Int) = l[j] := by
  unfold rd_T106
  simp only [Int.toNat_natCast]
  rw [List.getD_eq_getElem?_getD, List.getElem?_eq_getElem h]
  rfl
theorem rdCO (l : List S108) (j : Nat) (h : j < l.length) : rd_T108 l (j : Int) = l[j] := by
  unfold rd_T108
  simp only [Int.toNat_natCast]
  rw [List.getD_eq_getElem?_getD, List.getElem?_eq_getElem h]
  rfl
theorem bts (a b : ByteArray) : a.toList = b.toList ↔ a = b := ⟨fun h => (bytes_toList a b).1 h, fun h => by rw [h]⟩
/-! ### Operators by name -/
def lkO (n : ByteArray) : List S106 → Option Int
  | [] => none
  | o :: l => if o.f0 = n then some o.f1 else lkO n l
mutual
def ovG (lk : ByteArray → Option Int) : S24 → Bool
  | ⟨v, n, l⟩ => v || (decide (lk n = some (l.length : Int)) && ovGL lk l)
def ovGL (lk : ByteArray → Option Int) : List S24 → Bool
  | [] => true
  | a :: l => ovG lk a && ovGL lk l
end
theorem ovG_eq (lk : ByteArray → Option Int) (t : S24) : ovG lk t = (t.f0 || (decide (lk t.f1 = some (t.f2.length : Int)) && ovGL lk t.f2)) := by cases t; simp [ovG]
mutual
theorem ovG_over (d : List (ByteArray × Int)) : ∀ t, overT d t = ovG (fun n => lookK n d) t
  | ⟨v, n, l⟩ => by simp only [overT, ovG, ovGL_over d l]
theorem ovGL_over (d : List (ByteArray × Int)) : ∀ l, overL d l = ovGL (fun n => lookK n d) l
  | [] => rfl
  | a :: l => by simp only [overL, ovGL, ovG_over d a, ovGL_over d l]
end
def toR (r : Option Int) : Int × Bool := match r with | some a => (a, true) | none => (0, false)
theorem typeop_ev (l0 : List S106) (l1 : List S108) (n : ByteArray) (hl : l0.length ≤ 4611686018427387904) : Ev (fun k => sequentref04_TypeOp.f k l0 l1 n) (toR (lkO n l0)) := by
  simp only [sequentref04_TypeOp.f]
  refine Ev.val (down (fun j => Ev (fun k => sequentref04_TypeOp.l0 k n (j : Int) l0 l1) (toR (lkO n (l0.drop j)))) l0.length ?_ ?_) (by simp)
  · refine Ev.succ ?_
    simp only [sequentref04_TypeOp.l0]
    exact Ev.neg (by omega) ((Ev.pure _).val (by simp [lkO, toR]))
  · intro j hj ih
    refine Ev.succ ?_
    simp only [sequentref04_TypeOp.l0]
    refine Ev.pos (by omega) (Ev.pos (by omega) ?_)
    rw [rdTO l0 j hj, List.drop_eq_getElem_cons hj, lkO]
    refine Ev.ite (fun e => (Ev.pure _).val ?_) (fun e => ?_)
    · rw [if_pos ((bts _ _).1 e)]
      rfl
    · rw [w64s (by omega), if_neg (fun h => e ((bts _ _).2 h))]
      exact ih
theorem overg_ev (l0 : List S106) (l1 : List S108) (hl : l0.length ≤ 4611686018427387904) : ∀ (n : Nat) (t : S24), szT t ≤ n → szT t ≤ 4611686018427387904 → Ev (fun k => sequentref04_OverType.f k l0 l1 t.f0 t.f1 t.f2) (ovG (fun n => lkO n l0) t)
  | 0, t, h, _ => by have := szT_pos t; omega
  | n + 1, t, hn, hs => by
    have hz := szT_eq' t
    have hlen := szL_len t.f2
    have hloop : Ev (fun k => sequentref04_OverType.l0 k 0 l0 l1 t.f0 t.f1 t.f2) (ovGL (fun n => lkO n l0) t.f2) := by
      refine Ev.val (down (fun j => Ev (fun k => sequentref04_OverType.l0 k (j : Int) l0 l1 t.f0 t.f1 t.f2) (ovGL (fun n => lkO n l0) (t.f2.drop j))) t.f2.length ?_ ?_) (by simp)
      · refine Ev.succ ?_
        simp only [sequentref04_OverType.l0]
        exact Ev.neg (by omega) ((Ev.pure _).val (by simp [ovGL]))
      · intro j hj ih
        refine Ev.succ ?_
        simp only [sequentref04_OverType.l0]
        refine Ev.pos (by omega) (Ev.pos (by omega) ?_)
        rw [rdT t.f2 j hj, List.drop_eq_getElem_cons hj, ovGL]
        have hm := szL_mem t.f2 _ (List.getElem_mem hj)
        refine Ev.bind (overg_ev l0 l1 hl n t.f2[j] (by omega) (by omega)) (Ev.ite (fun e => ?_) (fun e => (Ev.pure _).val ?_))
        · rw [w64s (by omega), e, Bool.true_and]
          exact ih
        · rw [Bool.not_eq_true] at e
          rw [e]
          rfl
    have hj : ∀ b : Bool, Ev (fun k => sequentref04_OverType.j0 k b l0 l1 t.f0 t.f1 t.f2) (!b && ovGL (fun n => lkO n l0) t.f2) := fun b => by
      refine Ev.succ ?_
      simp only [sequentref04_OverType.j0]
      cases b with
      | true => exact Ev.pos rfl ((Ev.pure _).val rfl)
      | false => exact Ev.neg (by simp) (hloop.val (by simp))
    refine Ev.succ ?_
    simp only [sequentref04_OverType.f]
    rw [ovG_eq]
    refine Ev.ite (fun e => (Ev.pure _).val (by rw [e]; rfl)) (fun e => ?_)
    rw [Bool.not_eq_true] at e
    rw [show (t.f0 || (decide (lkO t.f1 l0 = some (t.f2.length : Int)) && ovGL (fun n => lkO n l0) t.f2)) = (decide (lkO t.f1 l0 = some (t.f2.length : Int)) && ovGL (fun n => lkO n l0) t.f2) from by rw [e]; rfl]
    have ht := typeop_ev l0 l1 t.f1 hl
    cases hlk : lkO t.f1 l0 with
    | none =>
      rw [hlk] at ht
      refine Ev.bind ht (Ev.neg (by simp [toR]) ((hj true).val (by simp)))
    | some a =>
      rw [hlk] at ht
      refine Ev.bind ht (Ev.pos rfl ((hj _).val ?_))
      by_cases ha : a = (t.f2.length : Int)
      · subst ha
        simp [toR]
      · simp [toR, ha]
/-! ### Different names -/
def dstK : List ByteArray → List ByteArray → Bool
  | _, [] => true
  | s, a :: l => !inS s a && dstK (s ++ [a]) l
def addL : List ByteArray → List ByteArray → List ByteArray
  | s, [] => s
  | s, a :: l => addL (addS a s) l
theorem addL_le : ∀ (l s : List ByteArray), (addL s l).length ≤ s.length + l.length
  | [], s => by simp [addL]
  | a :: l, s => by
    have h := addL_le l (addS a s)
    have : (addS a s).length ≤ s.length + 1 := by unfold addS; split <;> simp
    simp only [addL, List.length_cons]
    omega
theorem addL_dst : ∀ (l s : List ByteArray), decide ((addL s l).length = s.length + l.length) = dstK s l
  | [], s => by simp [addL, dstK]
  | a :: l, s => by
    simp only [addL, dstK, List.length_cons]
    by_cases h : a ∈ s
    · have hi : inS s a = true := (inS_iff s a).2 h
      have hs : addS a s = s := by unfold addS; rw [if_pos h]
      have := addL_le l s
      have hne : ¬ ((addL s l).length = s.length + (l.length + 1)) := by omega
      simp only [hs, hi, hne, decide_false, Bool.not_true, Bool.false_and]
    · have hi : inS s a = false := by
        rw [← Bool.not_eq_true, inS_iff]
        exact h
      have hs : addS a s = s ++ [a] := by unfold addS; rw [if_neg h]
      have ih := addL_dst l (s ++ [a])
      simp only [hs, hi, ← ih, List.length_append, List.length_singleton, Bool.not_false, Bool.true_and]
      congr 1
      rw [eq_iff_iff]
      constructor <;> intro h <;> omega
theorem putK_keys {β : Type} (n : ByteArray) (v : β) : ∀ d : List (ByteArray × β), (putK n v d).map (·.1) = addS n (d.map (·.1))
  | [] => rfl
  | p :: d => by
    have h := putK_keys n v d
    simp only [putK]
    by_cases hp : p.1 = n
    · rw [if_pos hp]
      unfold addS
      rw [if_pos (by rw [List.map_cons, hp]; exact List.mem_cons_self ..)]
      simp [hp]
    · rw [if_neg hp, List.map_cons, h]
      unfold addS
      rw [List.map_cons]
      by_cases hm : n ∈ d.map (·.1)
      · rw [if_pos hm, if_pos (List.mem_cons_of_mem _ hm)]
      · rw [if_neg hm, if_neg (by rw [List.mem_cons]; rintro (h | h); exact hp h.symm; exact hm h)]
        rfl
theorem arD_keys : ∀ (l : List S106) (d : List (ByteArray × Int)), (arD d l).map (·.1) = addL (d.map (·.1)) (l.map (·.f0))
  | [], d => rfl
  | o :: l, d => by rw [arD, arD_keys l, putK_keys]; rfl
theorem coD_keys : ∀ (l : List S108) (d : List (ByteArray × S24)), (coD d l).map (·.1) = addL (d.map (·.1)) (l.map (·.f0))
  | [], d => rfl
  | o :: l, d => by rw [coD, coD_keys l, putK_keys]; rfl
theorem arD_dst (l : List S106) : decide ((arD [] l).length = l.length) = dstK [] (l.map (·.f0)) := by
  rw [← addL_dst]
  have h := congrArg List.length (arD_keys l [])
  rw [List.length_map] at h
  rw [h]
  simp
theorem coD_dst (l : List S108) : decide ((coD [] l).length = l.length) = dstK [] (l.map (·.f0)) := by
  rw [← addL_dst]
  have h := congrArg List.length (coD_keys l [])
  rw [List.length_map] at h
  rw [h]
  simp
theorem look_keys {β : Type} (n : ByteArray) : ∀ d : List (ByteArray × β), (lookK n d).isSome = inS (d.map (·.1)) n
  | [] => rfl
  | p :: d => by
    rw [lookK, List.map_cons]
    by_cases hp : p.1 = n
    · rw [if_pos hp, (inS_iff _ _).2 (by rw [hp]; exact List.mem_cons_self ..)]
      rfl
    · rw [if_neg hp, look_keys n d, Bool.eq_iff_iff, inS_iff, inS_iff, List.mem_cons]
      constructor
      · exact .inr
      · rintro (h | h)
        · exact absurd h.symm hp
        · exact h
theorem ar_look (n : ByteArray) : ∀ (l : List S106) (d : List (ByteArray × Int)), dstK (d.map (·.1)) (l.map (·.f0)) = true → lookK n (arD d l) = (lookK n d).or (lkO n l)
  | [], d, _ => by simp [arD, lkO]
  | o :: l, d, h => by
    simp only [List.map_cons, dstK, Bool.and_eq_true, Bool.not_eq_true'] at h
    have hs : (putK o.f0 o.f1 d).map (·.1) = d.map (·.1) ++ [o.f0] := by
      rw [putK_keys]
      unfold addS
      rw [if_neg]
      intro hm
      rw [← inS_iff, h.1] at hm
      cases hm
    rw [arD, ar_look n l _ (by rw [hs]; exact h.2), lookK_put, lkO]
    by_cases hn : n = o.f0
    · subst hn
      have hnone : lookK o.f0 d = none := by
        have := look_keys o.f0 d
        rw [h.1] at this
        cases hq : lookK o.f0 d with
        | none => rfl
        | some v => rw [hq] at this; cases this
      rw [if_pos rfl, if_pos rfl, hnone]
      rfl
    · rw [if_neg hn, if_neg (fun e => hn e.symm)]
/-! ### Check -/
def rTy : List S106 → List S106 → Bool
  | _, [] => true
  | P, o :: l => (!oddTy o && P.all (fun p => !(p.f0.toList == o.f0.toList))) && rTy (P ++ [o]) l
def rCo (lk : ByteArray → Option Int) : List S108 → List S108 → Bool
  | _, [] => true
  | P, o :: l => ((nmC o.f0 && (chkB o.f1 && ovG lk o.f1)) && P.all (fun p => !(p.f0.toList == o.f0.toList))) && rCo lk (P ++ [o]) l
theorem all_in (s : List ByteArray) (n : ByteArray) : s.all (fun p => !(p.toList == n.toList)) = !inS s n := by
  unfold inS
  induction s with
  | nil => rfl
  | cons a s ih => rw [List.all_cons, List.any_cons, ih, Bool.not_or, show (a.toList == n.toList) = (n.toList == a.toList) from BEq.comm]
theorem rTy_eq : ∀ (l P : List S106), rTy P l = (dstK (P.map (·.f0)) (l.map (·.f0)) && !l.any oddTy)
  | [], P => by simp [rTy, dstK]
  | o :: l, P => by
    have h := all_in (P.map (·.f0)) o.f0
    rw [List.all_map] at h
    have h2 : P.all (fun p => !(p.f0.toList == o.f0.toList)) = !inS (P.map (·.f0)) o.f0 := h
    rw [rTy, rTy_eq l, h2, List.map_cons, dstK, List.any_cons, List.map_append]
    simp only [List.map_cons, List.map_nil]
    generalize oddTy o = a
    generalize inS (P.map (·.f0)) o.f0 = b
    generalize dstK (P.map (·.f0) ++ [o.f0]) (l.map (·.f0)) = c
    generalize l.any oddTy = e
    revert a b c e
    decide
theorem rCo_eq (lk : ByteArray → Option Int) : ∀ (l P : List S108), rCo lk P l = (dstK (P.map (·.f0)) (l.map (·.f0)) && !l.any (fun x => !(nmC x.f0 && (chkB x.f1 && ovG lk x.f1))))
  | [], P => by simp [rCo, dstK]
  | o :: l, P => by
    have h := all_in (P.map (·.f0)) o.f0
    rw [List.all_map] at h
    have h2 : P.all (fun p => !(p.f0.toList == o.f0.toList)) = !inS (P.map (·.f0)) o.f0 := h
    rw [rCo, rCo_eq lk l, h2, List.map_cons, dstK, List.any_cons, List.map_append]
    simp only [List.map_cons, List.map_nil]
    generalize (nmC o.f0 && (chkB o.f1 && ovG lk o.f1)) = a
    generalize inS (P.map (·.f0)) o.f0 = b
    generalize dstK (P.map (·.f0) ++ [o.f0]) (l.map (·.f0)) = c
    generalize (l.any fun x => !(nmC x.f0 && (chkB x.f1 && ovG lk x.f1))) = e
    revert a b c e
    decide
theorem sigOk_eq (l0 : List S106) (l1 : List S108) : sigOk l0 l1 = (rTy [] l0 && rCo (fun n => lkO n l0) [] l1) := by
  rw [rTy_eq, rCo_eq, sigOk, arD_dst, coD_dst]
  simp only [List.map_nil]
  cases hd : dstK [] (l0.map (·.f0)) with
  | false => simp
  | true =>
    have hov : ∀ x : S108, oddCo (arD [] l0) x = !(nmC x.f0 && (chkB x.f1 && ovG (fun n => lkO n l0) x.f1)) := fun x => by
      unfold oddCo
      rw [ovG_over, show (fun n => lookK n (arD [] l0)) = (fun n => lkO n l0) from funext fun n => by rw [ar_look n l0 [] hd]; rfl]
      cases nmC x.f0 <;> cases chkB x.f1 <;> simp
    rw [show oddCo (arD [] l0) = (fun x => !(nmC x.f0 && (chkB x.f1 && ovG (fun n => lkO n l0) x.f1))) from funext hov]
    generalize dstK [] (l1.map (·.f0)) = a
    generalize l0.any oddTy = b
    generalize (l1.any fun x => !(nmC x.f0 && (chkB x.f1 && ovG (fun n => lkO n l0) x.f1))) = c
    revert a b c
    decide
end Go.Proofs.Ytecplbgdalchdaa.Q
/- Proved here: the reference's functions on signatures (Great, Check, Twin, AddType, AddConst, Same) answer as the program's. Conditions: those that each theorem names. -/
namespace Go.Proofs.Ytecplbgdalchdaa.Q
open Go.RowKit Go.Shelf Go.Proofs.YtecplbgdalchdaaW.PrintWords Go.Proofs.YtecplbgdalchdaaW.PrintMore
set_option linter.unusedVariables false
set_option linter.unusedSimpArgs false

/-! ### Great -/
def bigC (c : S108) : Bool := greatB c.f1 || decide (c.f0.size > 1000)
def bigO (o : S106) : Bool := decide (o.f0.size > 1000)
def greatG (l0 : List S106) (l1 : List S108) : Bool :=
  decide (600 < l0.length) || (decide (600 < l1.length) || ((decide (100 < l1.length) && decide (l1.length ≤ 512)) || (l1.any bigC || l0.any bigO)))
theorem greatg_ev (l0 : List S106) (l1 : List S108) (h1 : ∀ x, x ∈ l1 → wd x.f1) : Ev (fun k => sequentref04_Great.f k l0 l1) (greatG l0 l1) := by
  have hl1 : l0.length ≤ 600 → Ev (fun k => sequentref04_Great.l1 k 0 l0 l1) (l0.any bigO) := fun hz => by
    refine Ev.val (down (fun j => Ev (fun k => sequentref04_Great.l1 k (j : Int) l0 l1) ((l0.drop j).any bigO)) l0.length ?_ ?_) (by simp)
    · refine Ev.succ ?_
      simp only [sequentref04_Great.l1]
      exact Ev.neg (by omega) ((Ev.pure _).val (by simp))
    · intro j hj ih
      refine Ev.succ ?_
      simp only [sequentref04_Great.l1]
      refine Ev.pos (by omega) (Ev.pos (by omega) ?_)
      rw [rdTO l0 j hj, List.drop_eq_getElem_cons hj, List.any_cons, bigO]
      refine Ev.ite (fun e => (Ev.pure _).val ?_) (fun e => ?_)
      · rw [decide_eq_true (show l0[j].f0.size > 1000 by omega)]
        rfl
      · rw [decide_eq_false (show ¬ l0[j].f0.size > 1000 by omega), Bool.false_or, w64s (by omega)]
        exact ih
  have hl0 : l0.length ≤ 600 → l1.length ≤ 600 → Ev (fun k => sequentref04_Great.l0 k 0 l0 l1) (l1.any bigC || l0.any bigO) := fun hz hz1 => by
    refine Ev.val (down (fun j => Ev (fun k => sequentref04_Great.l0 k (j : Int) l0 l1) ((l1.drop j).any bigC || l0.any bigO)) l1.length ?_ ?_) (by simp)
    · refine Ev.succ ?_
      simp only [sequentref04_Great.l0]
      exact Ev.neg (by omega) ((hl1 hz).val (by simp))
    · intro j hj ih
      refine Ev.succ ?_
      simp only [sequentref04_Great.l0]
      refine Ev.pos (by omega) (Ev.pos (by omega) ?_)
      rw [rdCO l1 j hj, List.drop_eq_getElem_cons hj, List.any_cons]
      refine Ev.bind (great_ev _ (h1 _ (List.getElem_mem hj))) (Ev.ite (fun e => (Ev.pure _).val (by simp [bigC, e])) (fun e => Ev.ite (fun e2 => (Ev.pure _).val ?_) (fun e2 => ?_)))
      · rw [bigC, decide_eq_true (show l1[j].f0.size > 1000 by omega)]
        simp
      · rw [bigC, decide_eq_false (show ¬ l1[j].f0.size > 1000 by omega), Bool.not_eq_true _ |>.mp e, Bool.false_or, Bool.false_or, w64s (by omega)]
        exact ih
  have hj : l0.length ≤ 600 → l1.length ≤ 600 → ∀ b : Bool, Ev (fun k => sequentref04_Great.j0 k b l0 l1) (b || (l1.any bigC || l0.any bigO)) := fun hz hz1 b => by
    refine Ev.succ ?_
    simp only [sequentref04_Great.j0]
    cases b with
    | true => exact Ev.pos rfl ((Ev.pure _).val rfl)
    | false => exact Ev.neg (by simp) ((hl0 hz hz1).val (by simp))
  have ht : Ev (fun k => sequentref04_Great.j0 k true l0 l1) true := by
    refine Ev.succ ?_
    simp only [sequentref04_Great.j0]
    exact Ev.pos trivial (Ev.pure _)
  simp only [sequentref04_Great.f]
  unfold greatG
  refine Ev.ite (fun e => ht.val ?_) (fun e => Ev.ite (fun e1 => ht.val ?_) (fun e1 => Ev.ite (fun e2 => ((hj (by omega) (by omega) _).val ?_)) (fun e2 => ((hj (by omega) (by omega) _).val ?_))))
  · rw [decide_eq_true (show 600 < l0.length by omega)]; rfl
  · rw [decide_eq_true (show 600 < l1.length by omega)]; simp
  · rw [decide_eq_false (show ¬ 600 < l0.length by omega), decide_eq_false (show ¬ 600 < l1.length by omega), decide_eq_true (show 100 < l1.length by omega)]
    simp only [Bool.false_or, Bool.true_and]
    congr 1
    rw [Bool.eq_iff_iff, decide_eq_true_eq, decide_eq_true_eq]
    omega
  · rw [decide_eq_false (show ¬ 600 < l0.length by omega), decide_eq_false (show ¬ 600 < l1.length by omega), decide_eq_false (show ¬ 100 < l1.length by omega)]
    simp
/-! ### Check -/
theorem refop_ev (n : ByteArray) (h : okS n) : Ev (fun k => sequentref04_Operator.f k n) (nmC n) := by
  simp only [sequentref04_Operator.f]
  refine Ev.bind (refname_ev n h) (Ev.ite (fun e => Ev.pos ?_ ((Ev.pure _).val ?_)) (fun e => (Ev.pure _).val ?_))
  · have e' := e
    simp only [nameB, Bool.and_eq_true, decide_eq_true_eq] at e'
    omega
  · simp [nmC, e, bne]
  · simp [nmC, e]
section
variable (l0 : List S106) (l1 : List S108) (z0 : l0.length ≤ 100000) (z1 : l1.length ≤ 100000)
include z0 in
theorem ckl1_ev (i : Nat) (hi : i < l0.length) (R : Int) (hR : Ev (fun k => sequentref04_Check.l0 k ((i + 1 : Nat) : Int) l0 l1) R) :
    Ev (fun k => sequentref04_Check.l1 k (i : Int) 0 l0 l1) (if (l0.take i).all (fun p => !(p.f0.toList == l0[i].f0.toList)) = true then R else 8) := by
  refine Ev.val (down (fun j => Ev (fun k => sequentref04_Check.l1 k (i : Int) (j : Int) l0 l1) (if ((l0.take i).drop j).all (fun p => !(p.f0.toList == l0[i].f0.toList)) = true then R else 8)) i ?_ ?_) (by simp)
  · refine Ev.succ ?_
    simp only [sequentref04_Check.l1]
    refine Ev.neg (by omega) ?_
    rw [w64s (by omega), List.drop_of_length_le (by rw [List.length_take]; omega), if_pos (by rfl)]
    exact hR
  · intro j hj ih
    have hjl : j < (l0.take i).length := by rw [List.length_take]; omega
    refine Ev.succ ?_
    simp only [sequentref04_Check.l1]
    refine Ev.pos (by omega) (Ev.pos (by omega) (Ev.pos (by omega) (Ev.pos (by omega) (Ev.pos (by omega) ?_))))
    rw [rdTO l0 j (by omega), rdTO l0 i hi, List.drop_eq_getElem_cons hjl, List.all_cons, List.getElem_take]
    refine Ev.ite (fun e => (Ev.pure _).val ?_) (fun e => ?_)
    · rw [if_neg (by simp [e])]
    · rw [w64s (by omega), show (!(l0[j].f0.toList == l0[i].f0.toList)) = true by simp [e], Bool.true_and]
      exact ih
include z1 in
theorem ckl3_ev (i : Nat) (hi : i < l1.length) (R : Int) (hR : Ev (fun k => sequentref04_Check.l2 k ((i + 1 : Nat) : Int) l0 l1) R) :
    Ev (fun k => sequentref04_Check.l3 k (i : Int) 0 l0 l1) (if (l1.take i).all (fun p => !(p.f0.toList == l1[i].f0.toList)) = true then R else 8) := by
  refine Ev.val (down (fun j => Ev (fun k => sequentref04_Check.l3 k (i : Int) (j : Int) l0 l1) (if ((l1.take i).drop j).all (fun p => !(p.f0.toList == l1[i].f0.toList)) = true then R else 8)) i ?_ ?_) (by simp)
  · refine Ev.succ ?_
    simp only [sequentref04_Check.l3]
    refine Ev.neg (by omega) ?_
    rw [w64s (by omega), List.drop_of_length_le (by rw [List.length_take]; omega), if_pos (by rfl)]
    exact hR
  · intro j hj ih
    have hjl : j < (l1.take i).length := by rw [List.length_take]; omega
    refine Ev.succ ?_
    simp only [sequentref04_Check.l3]
    refine Ev.pos (by omega) (Ev.pos (by omega) (Ev.pos (by omega) (Ev.pos (by omega) (Ev.pos (by omega) ?_))))
    rw [rdCO l1 j (by omega), rdCO l1 i hi, List.drop_eq_getElem_cons hjl, List.all_cons, List.getElem_take]
    refine Ev.ite (fun e => (Ev.pure _).val ?_) (fun e => ?_)
    · rw [if_neg (by simp [e])]
    · rw [w64s (by omega), show (!(l1[j].f0.toList == l1[i].f0.toList)) = true by simp [e], Bool.true_and]
      exact ih
theorem if_and8 (a b : Bool) (R : Int) : (if (a && b) = true then R else 8) = if a = true then (if b = true then R else 8) else 8 := by
  cases a <;> cases b <;> rfl
include z0 z1 in
theorem ckl2_ev (h1 : ∀ x, x ∈ l1 → okS x.f0 ∧ fit x.f1) : Ev (fun k => sequentref04_Check.l2 k 0 l0 l1) (if rCo (fun n => lkO n l0) [] l1 = true then 0 else 8) := by
  refine Ev.val (down (fun i => Ev (fun k => sequentref04_Check.l2 k (i : Int) l0 l1) (if rCo (fun n => lkO n l0) (l1.take i) (l1.drop i) = true then 0 else 8)) l1.length ?_ ?_) (by simp)
  · refine Ev.succ ?_
    simp only [sequentref04_Check.l2]
    exact Ev.neg (by omega) ((Ev.pure _).val (by simp [rCo]))
  · intro i hi ih
    have hx := h1 _ (List.getElem_mem hi)
    have hj : ∀ b : Bool, Ev (fun k => sequentref04_Check.j5 k (i : Int) b l0 l1) (if b = true then 8 else (if (l1.take i).all (fun p => !(p.f0.toList == l1[i].f0.toList)) = true then (if rCo (fun n => lkO n l0) (l1.take (i + 1)) (l1.drop (i + 1)) = true then 0 else 8) else 8)) := fun b => by
      refine Ev.succ ?_
      simp only [sequentref04_Check.j5]
      cases b with
      | true => exact Ev.pos rfl (Ev.pure _)
      | false => exact Ev.neg (by simp) ((ckl3_ev l0 l1 z1 i hi _ ih).val (by simp))
    refine Ev.succ ?_
    simp only [sequentref04_Check.l2]
    refine Ev.pos (by omega) (Ev.pos (by omega) ?_)
    rw [rdCO l1 i hi, List.drop_eq_getElem_cons hi, rCo, ← List.take_succ_eq_append_getElem hi, if_and8, if_and8]
    refine Ev.bind (rname_ev _ hx.1) (Ev.ite (fun e => ?_) (fun e => (hj true).val (by rw [if_pos rfl, Bool.not_eq_true _ |>.mp e]; rfl)))
    refine Ev.bind (valid_ev _ hx.2) (Ev.ite (fun e1 => ?_) (fun e1 => (hj true).val (by rw [if_pos rfl, e, Bool.not_eq_true _ |>.mp e1]; rfl)))
    refine Ev.bind (overg_ev l0 l1 (by omega) _ _ (Nat.le_refl _) hx.2.1) ((hj _).val ?_)
    rw [e, e1, Bool.true_and, Bool.true_and]
    cases ovG (fun n => lkO n l0) l1[i].f1 <;> rfl
include z0 z1 in
theorem ckl0_ev (h0 : ∀ x, x ∈ l0 → okS x.f0) (h1 : ∀ x, x ∈ l1 → okS x.f0 ∧ fit x.f1) : Ev (fun k => sequentref04_Check.l0 k 0 l0 l1) (if sigOk l0 l1 = true then 0 else 8) := by
  refine Ev.val (down (fun i => Ev (fun k => sequentref04_Check.l0 k (i : Int) l0 l1) (if rTy (l0.take i) (l0.drop i) = true then (if rCo (fun n => lkO n l0) [] l1 = true then 0 else 8) else 8)) l0.length ?_ ?_) (by rw [sigOk_eq, if_and8]; simp)
  · refine Ev.succ ?_
    simp only [sequentref04_Check.l0]
    exact Ev.neg (by omega) ((ckl2_ev l0 l1 z0 z1 h1).val (by simp [rTy]))
  · intro i hi ih
    have hx := h0 _ (List.getElem_mem hi)
    have hj : ∀ b : Bool, Ev (fun k => sequentref04_Check.j2 k (i : Int) b l0 l1) (if b = true then 8 else (if (l0.take i).all (fun p => !(p.f0.toList == l0[i].f0.toList)) = true then (if rTy (l0.take (i + 1)) (l0.drop (i + 1)) = true then (if rCo (fun n => lkO n l0) [] l1 = true then 0 else 8) else 8) else 8)) := fun b => by
      refine Ev.succ ?_
      simp only [sequentref04_Check.j2]
      cases b with
      | true => exact Ev.pos rfl (Ev.pure _)
      | false => exact Ev.neg (by simp) ((ckl1_ev l0 l1 z0 i hi _ ih).val (by simp))
    refine Ev.succ ?_
    simp only [sequentref04_Check.l0]
    refine Ev.pos (by omega) (Ev.pos (by omega) ?_)
    rw [rdTO l0 i hi, List.drop_eq_getElem_cons hi, rTy, ← List.take_succ_eq_append_getElem hi, if_and8, if_and8, oddTy]
    refine Ev.bind (refop_ev _ hx) (Ev.ite (fun e => Ev.ite (fun e1 => (hj true).val ?_) (fun e1 => (hj _).val ?_)) (fun e => (hj true).val (by rw [if_pos rfl, Bool.not_eq_true _ |>.mp e]; rfl)))
    · rw [if_pos rfl, decide_eq_true e1, e]
      rfl
    · rw [decide_eq_false e1, e]
      by_cases h8 : 8 < l0[i].f1
      · rw [decide_eq_true h8]
        rfl
      · rw [decide_eq_false h8]
        rfl
include z0 z1 in
theorem refchk_ev (h0 : ∀ x, x ∈ l0 → okS x.f0) (h1 : ∀ x, x ∈ l1 → okS x.f0 ∧ fit x.f1) : Ev (fun k => sequentref04_Check.f k l0 l1) (sigE l0 l1) := by
  have hj : ∀ b : Bool, Ev (fun k => sequentref04_Check.j0 k b l0 l1) (if b = true then 4 else if sigOk l0 l1 = true then 0 else 8) := fun b => by
    refine Ev.succ ?_
    simp only [sequentref04_Check.j0]
    cases b with
    | true => exact Ev.pos rfl (Ev.pure _)
    | false => exact Ev.neg (by simp) ((ckl0_ev l0 l1 z0 z1 h0 h1).val (by simp))
  simp only [sequentref04_Check.f]
  unfold sigE
  refine Ev.ite (fun e => (hj true).val ?_) (fun e => (hj _).val ?_)
  · rw [if_pos rfl, if_pos (.inl (by omega))]
  · by_cases h5 : 512 < l1.length
    · rw [decide_eq_true (show (l1.length : Int) > 512 by omega), if_pos rfl, if_pos (.inr h5)]
    · rw [decide_eq_false (show ¬ (l1.length : Int) > 512 by omega), if_neg (show ¬ (false = true) by simp), if_neg (show ¬ (512 < l0.length ∨ 512 < l1.length) by omega)]
/-! ### Twin -/
theorem etaT (t : S24) : (⟨t.f0, t.f1, t.f2⟩ : S24) = t := by cases t; rfl
include z0 z1 in
theorem twing_ev (hz : ∀ x, x ∈ l1 → szT x.f1 < 2932031007402) : Ev (fun k => sequentref04_Twin.f k l0 l1) (l0, l1) := by
  simp only [sequentref04_Twin.f]
  refine Ev.pos (by simp; omega) ?_
  simp only [List.nil_append]
  refine down (fun j => Ev (fun k => sequentref04_Twin.l0 k (j : Int) l0 l1 l0 (l1.take j)) (l0, l1)) l1.length ?_ ?_
  · refine Ev.succ ?_
    simp only [sequentref04_Twin.l0]
    exact Ev.neg (by omega) ((Ev.pure _).val (by simp))
  · intro j hj ih
    refine Ev.succ ?_
    simp only [sequentref04_Twin.l0]
    refine Ev.pos (by omega) (Ev.pos (by omega) ?_)
    rw [rdCO l1 j hj]
    refine Ev.bind (reftwin_ev _ (hz _ (List.getElem_mem hj))) (Ev.pos (by rw [List.length_take]; omega) ?_)
    rw [w64s (by omega)]
    refine ih.cong (fun k => ?_)
    rw [List.take_succ_eq_append_getElem hj]
    show sequentref04_Twin.l0 k ((j + 1 : Nat) : Int) l0 l1 l0 (l1.take j ++ [⟨l1[j].f0, ⟨l1[j].f1.f0, l1[j].f1.f1, l1[j].f1.f2⟩⟩]) = _
    rw [etaT]
/-! ### AddConst -/
def lkC (n : ByteArray) : List S108 → Option S24
  | [] => none
  | o :: l => if o.f0 = n then some o.f1 else lkC n l
def toC (r : Option S24) : Bool × ByteArray × List S24 × Bool := match r with | some t => (t.f0, t.f1, t.f2, true) | none => (false, ⟨#[]⟩, [], false)
include z1 in
theorem constg_ev (n : ByteArray) (hz : ∀ x, x ∈ l1 → szT x.f1 < 2932031007402) : Ev (fun k => sequentref04_Const.f k l0 l1 n) (toC (lkC n l1)) := by
  simp only [sequentref04_Const.f]
  refine Ev.val (down (fun j => Ev (fun k => sequentref04_Const.l0 k n (j : Int) l0 l1) (toC (lkC n (l1.drop j)))) l1.length ?_ ?_) (by simp)
  · refine Ev.succ ?_
    simp only [sequentref04_Const.l0]
    exact Ev.neg (by omega) ((Ev.pure _).val (by simp [lkC, toC]))
  · intro j hj ih
    refine Ev.succ ?_
    simp only [sequentref04_Const.l0]
    refine Ev.pos (by omega) (Ev.pos (by omega) ?_)
    rw [rdCO l1 j hj, List.drop_eq_getElem_cons hj, lkC]
    refine Ev.ite (fun e => ?_) (fun e => ?_)
    · rw [if_pos ((bts _ _).1 e)]
      exact Ev.bind (reftwin_ev _ (hz _ (List.getElem_mem hj))) (Ev.pure _)
    · rw [w64s (by omega), if_neg (fun h => e ((bts _ _).2 h))]
      exact ih
/-! ### Same -/
include z0 z1 in
theorem extg_ev (hz : ∀ x, x ∈ l1 → szT x.f1 < 2932031007402) : Ev (fun k => sequentref04_Extends.f k l0 l1 l0 l1) true := by
  have hl1 : Ev (fun k => sequentref04_Extends.l1 k 0 l0 l1 l0 l1) true := by
    refine down (fun j => Ev (fun k => sequentref04_Extends.l1 k (j : Int) l0 l1 l0 l1) true) l1.length ?_ ?_
    · refine Ev.succ ?_
      simp only [sequentref04_Extends.l1]
      exact Ev.neg (by omega) (Ev.pure _)
    · intro j hj ih
      refine Ev.succ ?_
      simp only [sequentref04_Extends.l1]
      refine Ev.pos (by omega) (Ev.pos (by omega) (Ev.pos (by omega) (Ev.pos trivial ?_)))
      rw [rdCO l1 j hj, w64s (by omega)]
      exact Ev.bind (same_ev _ _ (by have := hz _ (List.getElem_mem hj); omega)) (Ev.pos (by rw [cmpT_self]; rfl) ih)
  have hl0 : Ev (fun k => sequentref04_Extends.l0 k 0 l0 l1 l0 l1) true := by
    refine down (fun j => Ev (fun k => sequentref04_Extends.l0 k (j : Int) l0 l1 l0 l1) true) l0.length ?_ ?_
    · refine Ev.succ ?_
      simp only [sequentref04_Extends.l0]
      exact Ev.neg (by omega) hl1
    · intro j hj ih
      refine Ev.succ ?_
      simp only [sequentref04_Extends.l0]
      refine Ev.pos (by omega) (Ev.pos (by omega) (Ev.pos (by omega) (Ev.neg (by simp) ?_)))
      rw [w64s (by omega)]
      exact ih
  simp only [sequentref04_Extends.f]
  refine Ev.neg (by omega) ?_
  refine Ev.succ ?_
  simp only [sequentref04_Extends.j0]
  exact Ev.neg (by simp) hl0
include z0 z1 in
theorem samesig_ev (hz : ∀ x, x ∈ l1 → szT x.f1 < 2932031007402) : Ev (fun k => sequentref04_Same.f k l0 l1 l0 l1) true := by
  simp only [sequentref04_Same.f]
  exact Ev.bind (extg_ev l0 l1 z0 z1 hz) (Ev.pos rfl (Ev.bind (extg_ev l0 l1 z0 z1 hz) (Ev.pure _)))
end
end Go.Proofs.Ytecplbgdalchdaa.Q
/- Proved here: the reference's Extends and Same on signatures: what they answer. Conditions: those that each theorem names. -/
namespace Go.Proofs.Ytecplbgdalchdaa.Q
open Go.RowKit Go.Shelf Go.Proofs.YtecplbgdalchdaaW.PrintWords Go.Proofs.YtecplbgdalchdaaW.PrintMore
set_option linter.unusedVariables false
set_option linter.unusedSimpArgs false

def eqO (a b : S106) : Bool := a.f0.toList == b.f0.toList && a.f1 == b.f1
def eqC (a b : S108) : Bool := a.f0.toList == b.f0.toList && cmpT a.f1 b.f1 == 0
theorem eqO_iff (a b : S106) : eqO a b = true ↔ a = b := by
  obtain ⟨n, i⟩ := a
  obtain ⟨m, j⟩ := b
  simp only [eqO, Bool.and_eq_true, beq_iff_eq, bts, S106.mk.injEq]
theorem eqC_iff (a b : S108) : eqC a b = true ↔ a = b := by
  obtain ⟨n, i⟩ := a
  obtain ⟨m, j⟩ := b
  simp only [eqC, Bool.and_eq_true, beq_iff_eq, bts, cmpT_iff, S108.mk.injEq]
def preB {α : Type} (eq : α → α → Bool) : List α → List α → Bool
  | _, [] => true
  | [], _ :: _ => false
  | a :: x, b :: y => eq a b && preB eq x y
theorem preB_iff {α : Type} (eq : α → α → Bool) (h : ∀ a b, eq a b = true ↔ a = b) : ∀ x y : List α, preB eq x y = true ↔ y <+: x
  | _, [] => by simp [preB]
  | [], b :: y => by simp [preB]
  | a :: x, b :: y => by
    rw [preB, Bool.and_eq_true, h, preB_iff eq h x y, List.cons_prefix_cons]
    exact ⟨fun ⟨h1, h2⟩ => ⟨h1.symm, h2⟩, fun ⟨h1, h2⟩ => ⟨h1.symm, h2⟩⟩
def extB (a0 : List S106) (a1 : List S108) (b0 : List S106) (b1 : List S108) : Bool := preB eqO a0 b0 && preB eqC a1 b1
theorem extB_iff (a0 : List S106) (a1 : List S108) (b0 : List S106) (b1 : List S108) : extB a0 a1 b0 b1 = true ↔ b0 <+: a0 ∧ b1 <+: a1 := by
  rw [extB, Bool.and_eq_true, preB_iff eqO eqO_iff, preB_iff eqC eqC_iff]
def sameB (a0 : List S106) (a1 : List S108) (b0 : List S106) (b1 : List S108) : Bool := extB a0 a1 b0 b1 && extB b0 b1 a0 a1
theorem sameB_iff (a0 : List S106) (a1 : List S108) (b0 : List S106) (b1 : List S108) : sameB a0 a1 b0 b1 = true ↔ a0 = b0 ∧ a1 = b1 := by
  rw [sameB, Bool.and_eq_true, extB_iff, extB_iff]
  constructor
  · rintro ⟨⟨h1, h2⟩, h3, h4⟩
    exact ⟨h3.eq_of_length (by have := h1.length_le; have := h3.length_le; omega), h4.eq_of_length (by have := h2.length_le; have := h4.length_le; omega)⟩
  · rintro ⟨rfl, rfl⟩
    exact ⟨⟨List.prefix_refl _, List.prefix_refl _⟩, List.prefix_refl _, List.prefix_refl _⟩
theorem preB_short {α : Type} (eq : α → α → Bool) (h : ∀ a b, eq a b = true ↔ a = b) {x y : List α} (hl : x.length < y.length) : preB eq x y = false := by
  rw [← Bool.not_eq_true, preB_iff eq h]
  intro hp
  have := hp.length_le
  omega
theorem refext_ev (a0 : List S106) (a1 : List S108) (b0 : List S106) (b1 : List S108) (za : a0.length ≤ 100000) (zb : a1.length ≤ 100000) (zc : b0.length ≤ 100000) (zd : b1.length ≤ 100000) (hz : ∀ x, x ∈ a1 → szT x.f1 < 2932031007402) :
    Ev (fun k => sequentref04_Extends.f k a0 a1 b0 b1) (extB a0 a1 b0 b1) := by
  have hl1 : b1.length ≤ a1.length → Ev (fun k => sequentref04_Extends.l1 k 0 a0 a1 b0 b1) (preB eqC a1 b1) := fun hle => by
    refine Ev.val (down (fun j => Ev (fun k => sequentref04_Extends.l1 k (j : Int) a0 a1 b0 b1) (preB eqC (a1.drop j) (b1.drop j))) b1.length ?_ ?_) (by simp)
    · refine Ev.succ ?_
      simp only [sequentref04_Extends.l1]
      exact Ev.neg (by omega) ((Ev.pure _).val (by simp [preB]))
    · intro j hj ih
      have hja : j < a1.length := by omega
      refine Ev.succ ?_
      simp only [sequentref04_Extends.l1]
      refine Ev.pos (by omega) (Ev.pos (by omega) (Ev.pos (by omega) ?_))
      rw [rdCO a1 j hja, rdCO b1 j hj, w64s (by omega), List.drop_eq_getElem_cons hja, List.drop_eq_getElem_cons hj, preB, eqC]
      refine Ev.ite (fun e => ?_) (fun e => (Ev.pure _).val (by simp [e]))
      refine Ev.bind (same_ev _ _ (by have := hz _ (List.getElem_mem hja); omega)) (Ev.ite (fun e2 => ?_) (fun e2 => (Ev.pure _).val (by simp [Bool.not_eq_true _ |>.mp e2])))
      rw [e2]
      exact ih.val (by simp [e])
  have hl0 : b0.length ≤ a0.length → b1.length ≤ a1.length → Ev (fun k => sequentref04_Extends.l0 k 0 a0 a1 b0 b1) (extB a0 a1 b0 b1) := fun hle hle1 => by
    refine Ev.val (down (fun j => Ev (fun k => sequentref04_Extends.l0 k (j : Int) a0 a1 b0 b1) (preB eqO (a0.drop j) (b0.drop j) && preB eqC a1 b1)) b0.length ?_ ?_) (by simp [extB])
    · refine Ev.succ ?_
      simp only [sequentref04_Extends.l0]
      exact Ev.neg (by omega) ((hl1 hle1).val (by simp [preB]))
    · intro j hj ih
      have hja : j < a0.length := by omega
      refine Ev.succ ?_
      simp only [sequentref04_Extends.l0]
      refine Ev.pos (by omega) (Ev.pos (by omega) (Ev.pos (by omega) ?_))
      rw [rdTO a0 j hja, rdTO b0 j hj, w64s (by omega), List.drop_eq_getElem_cons hja, List.drop_eq_getElem_cons hj, preB, eqO]
      cases h1 : (a0[j].f0.toList == b0[j].f0.toList) with
      | false => exact Ev.pos (by simp) ((Ev.pure _).val (by simp))
      | true =>
        cases h2 : (a0[j].f1 == b0[j].f1) with
        | false => exact Ev.pos (by simp) ((Ev.pure _).val (by simp))
        | true => exact Ev.neg (by simp) (ih.val (by simp))
  have ht : Ev (fun k => sequentref04_Extends.j0 k true a0 a1 b0 b1) false := by
    refine Ev.succ ?_
    simp only [sequentref04_Extends.j0]
    exact Ev.pos trivial (Ev.pure _)
  simp only [sequentref04_Extends.f]
  refine Ev.ite (fun e => ht.val ?_) (fun e => ?_)
  · rw [extB, preB_short eqO eqO_iff (by omega)]
    rfl
  · by_cases hs : (a1.length : Int) < (b1.length : Int)
    · rw [decide_eq_true hs]
      refine ht.val ?_
      rw [extB, preB_short eqC eqC_iff (by omega)]
      simp
    · rw [decide_eq_false hs]
      refine Ev.succ ?_
      simp only [sequentref04_Extends.j0]
      exact Ev.neg (by simp) (hl0 (by omega) (by omega))
theorem refsame_ev (a0 : List S106) (a1 : List S108) (b0 : List S106) (b1 : List S108) (za : a0.length ≤ 100000) (zb : a1.length ≤ 100000) (zc : b0.length ≤ 100000) (zd : b1.length ≤ 100000) (hz : ∀ x, x ∈ a1 → szT x.f1 < 2932031007402) (hz2 : ∀ x, x ∈ b1 → szT x.f1 < 2932031007402) :
    Ev (fun k => sequentref04_Same.f k a0 a1 b0 b1) (sameB a0 a1 b0 b1) := by
  simp only [sequentref04_Same.f]
  unfold sameB
  refine Ev.bind (refext_ev a0 a1 b0 b1 za zb zc zd hz) (Ev.ite (fun e => ?_) (fun e => (Ev.pure _).val (by simp [Bool.not_eq_true _ |>.mp e])))
  rw [e]
  exact Ev.bind (refext_ev b0 b1 a0 a1 zc zd za zb hz2) ((Ev.pure _).val (by simp))
end Go.Proofs.Ytecplbgdalchdaa.Q
/- Proved here: the contracts of signature.Check, Extends, Same, and what TypeOp answers. Conditions: those that each theorem names. -/
namespace Go.Proofs.Ytecplbgdalchdaa.Q
open Go.RowKit Go.Shelf Go.Proofs.YtecplbgdalchdaaW.PrintWords Go.Proofs.YtecplbgdalchdaaW.PrintMore
set_option linter.unusedVariables false
set_option linter.unusedSimpArgs false
attribute [local go_sem] Oper.semAt_some

set_option maxHeartbeats 1000000 in
set_option maxRecDepth 100000 in
theorem sigCheck_calls (A0 : Option Addr) (c0 : Nat) (l0 : List S106) (A1 : Option Addr) (c1 : Nat) (l1 : List S108) (w : World) (hr0 : Kd.C k106 w A0 l0.length l0) (hc0 : l0.length ≤ c0) (hr1 : Kd.C k108 w A1 l1.length l1) (hc1 : l1.length ≤ c1)
    (h0 : ∀ x, x ∈ l0 → okS x.f0) (h1 : ∀ x, x ∈ l1 → okS x.f0 ∧ fit x.f1) :
    Calls Try.prog 76 #[.agg #[.slice A0 l0.length c0, .slice A1 l1.length c1]] w fun e w' => e = .returned (.int .i64 (sigE l0 l1)) ∧ Below w.heap.size w w' := by
  have hck := fun W (hw : Below w.heap.size w W) => sigcheck_calls A0 c0 l0 A1 c1 l1 W (Kd.C_below hr0 hw) hc0 (Kd.C_below hr1 hw) hc1 h0 h1
  obtain ⟨x0, x1, _, _⟩ := box2k (blk_new w (.cells #[.slice A0 l0.length c0, .slice A1 l1.length c1] 94))
  clear hr0 hr1 h0 h1
  go_enter Try.func76, Try.ntmps76
  go_wp2_with (go_at_call 148; (with_reducible refine (hck _ (below_one _)).mono ?_); rintro e W1 ⟨x, y, rfl, _, hb⟩)
  go_ret
  exact ⟨rfl, below_step (below_step (below_one _) hb) (below_one _)⟩

/-! ### EqualFunc -/
set_option maxHeartbeats 2000000 in
set_option maxRecDepth 100000 in
theorem equalFunc_calls (l m : List S108) (hlm : l.length = m.length) (A : Option Addr) (c : Nat) (B : Option Addr) (d : Nat) (w : World) (hA : k108.C w A l.length l) (hB : k108.C w B m.length m) :
    Calls Try.prog 153 #[.slice A l.length c, .slice B m.length d, .func (.func 154) #[] #[]] w fun e w' => e = .returned (.bool (preB eqC l m)) ∧ Below w.heap.size w w' := by
  have hm : l.length ≤ 9223372036854775807 := hA.2.1
  have hne : ((l.length : Int) != (m.length : Int)) = false := by rw [hlm]; simp
  have HA := Aside0.mk hA
  have HB := Aside0.mk hB
  have HL := Aside0.mk hlm
  clear hA hB hlm
  go_enter Try.func153, Try.ntmps153
  go_wp2
  go_loopg [7, 8, 9, 17] l.length (fun gg _ _ _ s17 wr => ∃ kk : Nat, kk ≤ l.length ∧ l.length - kk ≤ gg ∧ s17 = .int .i64 kk ∧ Aside0 (Below w.heap.size w wr) ∧ Aside0 (preB eqC l m = preB eqC (l.drop kk) (m.drop kk)))
  case atStart => exact ⟨0, Nat.zero_le _, by omega, rfl, ⟨Below.refl _ w⟩, ⟨rfl⟩⟩
  case round =>
    obtain ⟨kk, hkk, hg, rfl, HW, HC⟩ := hrel
    by_cases hlt : kk < l.length
    · have hltz : (kk : Int) < (l.length : Int) := by omega
      have hlmz : (kk : Int) < (m.length : Int) := by have := HL.out; omega
      obtain ⟨ad, A2, c2, e1, hx0, hx1, hx2, hx3, hl2, hi2⟩ := at_T108 (Kd.C_below HA.out HW.out) (kk : Int) (by omega) hltz
      cases e1
      obtain ⟨bd, B2, d2, e1, hy0, hy1, hy2, hy3, hl2', hi2'⟩ := at_T108 (Kd.C_below HB.out HW.out) (kk : Int) (by omega) hlmz
      cases e1
      simp only [Int.toNat_natCast] at hx0 hx1 hx2 hx3 hy0 hy1 hy2 hy3
      have hC := HC.out
      rw [drop_co l kk hlt, drop_co m kk (by have := HL.out; omega)] at hC
      simp only [preB] at hC
      generalize rd_T108 l kk = x at *
      generalize rd_T108 m kk = y at *
      have hcall := fun W (hw : Below wr.heap.size wr W) => signature_sameConst.calls x.f0 x.f1.f0 x.f1.f1 A2 c2 x.f1.f2 y.f0 y.f1.f0 y.f1.f1 B2 d2 y.f1.f2 (eqC x y) W (Kd.C_below hi2 hw) hl2 (Kd.C_below hi2' hw) hl2' (by
        simp only [signature_sameConst.f, eqC, types_Same.f, types_Compare.f, Option.bind_some, etaT]
        by_cases he : x.f0.toList = y.f0.toList
        · rw [if_pos he]; simp [he]
        · rw [if_neg he]; simp [he])
      have ax := World.block_lt_of_cell? wr _ hx0
      have ay := World.block_lt_of_cell? wr _ hy0
      have HCC := Aside0.mk hC
      clear hC HC hl2 hi2 hl2' hi2'
      generalize eqC x y = r at *
      cases r with
      | true =>
        go_wp2_with (go_at_call 154; refine (hcall _ (below_two _ _)).mono ?_; rintro e w' ⟨rfl, hb'⟩)
        go_roundg (l.length - (kk + 1))
        case measure => omega
        case rel => exact ⟨kk + 1, by omega, by omega, by go_num, ⟨HW.out.trans ((below_step (below_two _ _) hb').mono HW.out.size)⟩, ⟨by have := HCC.out; simpa using this⟩⟩
      | false =>
        go_wp2_with (go_at_call 154; refine (hcall _ (below_two _ _)).mono ?_; rintro e w' ⟨rfl, hb'⟩)
        go_ret
        exact ⟨by have := HCC.out; rw [this]; rfl, HW.out.trans ((below_step (below_two _ _) hb').mono HW.out.size)⟩
    · have hltz : ¬ (kk : Int) < (l.length : Int) := by omega
      have hC := HC.out
      rw [List.drop_of_length_le (show l.length ≤ kk by omega), List.drop_of_length_le (show m.length ≤ kk by have := HL.out; omega)] at hC
      simp only [preB] at hC
      have HC := Aside0.mk hC
      clear hC
      go_wp2
      go_ret
      exact ⟨by rw [HC.out]; rfl, HW.out⟩
end Go.Proofs.Ytecplbgdalchdaa.Q
/- Proved here: the contracts of signature.Extends, Same, and what TypeOp and Const answer. Conditions: those that each theorem names. -/
namespace Go.Proofs.Ytecplbgdalchdaa.Q
open Go.RowKit Go.Shelf Go.Proofs.YtecplbgdalchdaaW.PrintWords Go.Proofs.YtecplbgdalchdaaW.PrintMore
set_option linter.unusedVariables false
set_option linter.unusedSimpArgs false
attribute [local go_sem] Oper.semAt_some

theorem preB_take {α : Type} (eq : α → α → Bool) : ∀ (x y : List α), preB eq (x.take y.length) y = preB eq x y
  | _, [] => by simp [preB]
  | [], b :: y => by simp [preB]
  | a :: x, b :: y => by
    have h := preB_take eq x y
    simp only [List.length_cons, List.take_succ_cons, preB, h]
theorem equalO_ev (l m : List S106) (hl : l.length ≤ 4611686018427387904) (hlm : l.length = m.length) : Ev (fun k => api_TypeOp_152.f k l m) (preB eqO l m) := by
  simp only [api_TypeOp_152.f]
  refine Ev.pos (by omega) ?_
  refine Ev.val (down (fun j => Ev (fun k => api_TypeOp_152.l0 k l m (l.length : Int) (j : Int)) (preB eqO (l.drop j) (m.drop j))) l.length ?_ ?_) (by simp)
  · refine Ev.succ ?_
    simp only [api_TypeOp_152.l0]
    exact Ev.neg (by omega) ((Ev.pure _).val (by rw [List.drop_of_length_le (show m.length ≤ l.length by omega)]; simp [preB]))
  · intro j hj ih
    have hjm : j < m.length := by omega
    refine Ev.succ ?_
    simp only [api_TypeOp_152.l0]
    refine Ev.pos (by omega) (Ev.pos (by omega) (Ev.pos (by omega) (Ev.pos (by omega) ?_)))
    rw [rdTO l j hj, rdTO m j hjm, w64s (by omega), List.drop_eq_getElem_cons hj, List.drop_eq_getElem_cons hjm, preB, eqO]
    cases h1 : (l[j].f0.toList == m[j].f0.toList) with
    | false => exact Ev.pos (by simp) ((Ev.pure _).val (by simp))
    | true =>
      cases h2 : (l[j].f1 == m[j].f1) with
      | false => exact Ev.pos (by simp) ((Ev.pure _).val (by simp))
      | true => exact Ev.neg (by simp) (ih.val (by simp))
theorem sigtypeop_ev (l0 : List S106) (l1 : List S108) (n : ByteArray) (hl : l0.length ≤ 4611686018427387904) : Ev (fun k => signature_TypeOp.f k l0 l1 n) (toR (lkO n l0)) := by
  simp only [signature_TypeOp.f]
  refine Ev.val (down (fun j => Ev (fun k => signature_TypeOp.l0 k n l0 (l0.length : Int) (j : Int)) (toR (lkO n (l0.drop j)))) l0.length ?_ ?_) (by simp)
  · refine Ev.succ ?_
    simp only [signature_TypeOp.l0]
    exact Ev.neg (by omega) ((Ev.pure _).val (by simp [lkO, toR]))
  · intro j hj ih
    refine Ev.succ ?_
    simp only [signature_TypeOp.l0]
    refine Ev.pos (by omega) (Ev.pos (by omega) (Ev.pos (by omega) ?_))
    rw [rdTO l0 j hj, List.drop_eq_getElem_cons hj, lkO]
    refine Ev.ite (fun e => ?_) (fun e => ?_)
    · exact (Ev.pure _).val (by rw [if_pos ((bts _ _).1 e)]; rfl)
    · rw [w64s (by omega), if_neg (fun h => e ((bts _ _).2 h))]
      exact ih

/-- The two boxes of Extends' arguments. -/
abbrev XtS (w : World) (v0 v1 v2 v3 : Value) (W : World) : Prop :=
  W.cell? ⟨w.heap.size, 0, none⟩ = some v0 ∧ W.cell? ⟨w.heap.size, 1, none⟩ = some v1 ∧ W.cell? ⟨w.heap.size + 1, 0, none⟩ = some v2 ∧ W.cell? ⟨w.heap.size + 1, 1, none⟩ = some v3 ∧ Below w.heap.size w W
section
variable {w W W' : World} {v0 v1 v2 v3 : Value}
theorem XtS.step (h : XtS w v0 v1 v2 v3 W) (hb : Below W.heap.size W W') : XtS w v0 v1 v2 v3 W' := by
  obtain ⟨h0, h1, h2, h3, h4⟩ := h
  exact ⟨pw_cell_below hb h0, pw_cell_below hb h1, pw_cell_below hb h2, pw_cell_below hb h3, below_step h4 hb⟩
theorem XtS.below (h : XtS w v0 v1 v2 v3 W) : Below w.heap.size w W := h.2.2.2.2
theorem XtS.start (w : World) (v0 v1 v2 v3 : Value) : XtS w v0 v1 v2 v3 ((w.alloc (.cells #[v0, v1] 94)).alloc (.cells #[v2, v3] 94)) := by
  have h := two_new w (.cells #[v0, v1] 94) (.cells #[v2, v3] 94)
  obtain ⟨x0, x1, _, _⟩ := box2k h.2.1
  obtain ⟨y0, y1, _, _⟩ := box2k h.2.2
  exact ⟨x0, x1, y0, y1, h.1⟩
end
set_option maxHeartbeats 4000000 in
set_option maxRecDepth 100000 in
theorem extends_calls (A0 : Option Addr) (c0 : Nat) (l0 : List S106) (A1 : Option Addr) (c1 : Nat) (l1 : List S108) (B0 : Option Addr) (d0 : Nat) (m0 : List S106) (B1 : Option Addr) (d1 : Nat) (m1 : List S108) (w : World)
    (hr0 : Kd.C k106 w A0 l0.length l0) (hc0 : l0.length ≤ c0) (hr1 : Kd.C k108 w A1 l1.length l1) (hc1 : l1.length ≤ c1) (hs0 : Kd.C k106 w B0 m0.length m0) (hd0 : m0.length ≤ d0) (hs1 : Kd.C k108 w B1 m1.length m1) (hd1 : m1.length ≤ d1)
    (hz : l0.length ≤ 4611686018427387904 ∧ l1.length ≤ 4611686018427387904) :
    Calls Try.prog 79 #[.agg #[.slice A0 l0.length c0, .slice A1 l1.length c1], .agg #[.slice B0 m0.length d0, .slice B1 m1.length d1]] w fun e w' => e = .returned (.bool (extB l0 l1 m0 m1)) ∧ Below w.heap.size w w' := by
  have hS0 := XtS.start w (.slice A0 l0.length c0) (.slice A1 l1.length c1) (.slice B0 m0.length d0) (.slice B1 m1.length d1)
  obtain ⟨x0, x1, x2, x3, hb0⟩ := id hS0
  by_cases p0 : m0.length ≤ l0.length
  · have q0 : decide ((m0.length : Int) ≤ (l0.length : Int)) = true := decide_eq_true (by omega)
    by_cases p1 : m1.length ≤ l1.length
    · have q1 : decide ((m1.length : Int) ≤ (l1.length : Int)) = true := decide_eq_true (by omega)
      have i0 : (0 : Int) ≤ (m0.length : Int) := by omega
      have i1 : (0 : Int) ≤ (m1.length : Int) := by omega
      have i2 : (m0.length : Int) ≤ (c0 : Int) := by omega
      have i3 : (m1.length : Int) ≤ (c1 : Int) := by omega
      have hE : extB l0 l1 m0 m1 = (preB eqO (l0.take m0.length) m0 && preB eqC (l1.take m1.length) m1) := by rw [preB_take, preB_take]; rfl
      have lt0 : (l0.take m0.length).length = m0.length := by rw [List.length_take]; omega
      have lt1 : (l1.take m1.length).length = m1.length := by rw [List.length_take]; omega
      obtain ⟨k, hk⟩ := (equalO_ev (l0.take m0.length) m0 (by omega) lt0).at
      have heq := fun W (hw : XtS w (.slice A0 l0.length c0) (.slice A1 l1.length c1) (.slice B0 m0.length d0) (.slice B1 m1.length d1) W) => api_TypeOp_152.calls k A0 c0 (l0.take m0.length) B0 d0 m0 _ W (Kd.C_below (Kd.C_take hr0 p0) hw.below) (by omega) (Kd.C_below hs0 hw.below) hd0 hk
      have hef := fun W (hw : XtS w (.slice A0 l0.length c0) (.slice A1 l1.length c1) (.slice B0 m0.length d0) (.slice B1 m1.length d1) W) => (equalFunc_calls (l1.take m1.length) m1 lt1 A1 c1 B1 d1 W (Kd.C_below (Kd.C_take hr1 p1) hw.below) (Kd.C_below hs1 hw.below)).mono (fun _ _ h => And.intro h.1 (hw.step h.2))
      rw [lt0] at heq
      rw [lt1] at hef
      rw [hE]
      clear hE lt0 lt1 hk hr0 hr1 hs0 hs1 hz
      generalize preB eqO (l0.take m0.length) m0 = r0 at *
      generalize preB eqC (l1.take m1.length) m1 = r1 at *
      cases r0 with
      | true =>
        have heq2 := fun W hw => (heq W hw).mono (fun _ _ h => And.intro h.1 (hw.step h.2.below))
        clear heq
        go_enter Try.func79, Try.ntmps79
        go_wp2_with fail
        go_quiet (fail)
        go_wp2_with fail
        have hK0 : XtS w (.slice A0 l0.length c0) (.slice A1 l1.length c1) (.slice B0 m0.length d0) (.slice B1 m1.length d1) (((w.alloc (.cells #[.slice A0 l0.length c0, .slice A1 l1.length c1] 94)).alloc (.cells #[.slice B0 m0.length d0, .slice B1 m1.length d1] 94)).drewN nq).drew := hS0.step (below_drew1 (pw_below_drewN (Below.refl _ _) nq))
        clear hS0 x0 x1 x2 x3 hb0
        generalize ((w.alloc (.cells #[.slice A0 l0.length c0, .slice A1 l1.length c1] 94)).alloc (.cells #[.slice B0 m0.length d0, .slice B1 m1.length d1] 94)).drewN nq = W0 at *
        go_region_held3 (fun W => XtS w (.slice A0 l0.length c0) (.slice A1 l1.length c1) (.slice B0 m0.length d0) (.slice B1 m1.length d1) W)
          (first | (with_reducible exact hK0) | (with_reducible assumption))
          (first
            | (go_at_call 153; (with_reducible refine (hef _ (by with_reducible assumption)).mono ?_); rintro e w1 ⟨rfl, hN⟩)
            | (go_at_call 152; (with_reducible refine (heq2 _ (by with_reducible assumption)).mono ?_); rintro e w1 ⟨rfl, hN⟩))
        go_wp2_with fail
        go_ret
        exact ⟨by simp, hN.below⟩
      | false =>
        have heq2 := fun W hw => (heq W hw).mono (fun _ _ h => And.intro h.1 (hw.step h.2.below))
        clear heq hef
        go_enter Try.func79, Try.ntmps79
        go_wp2_with fail
        go_quiet (fail)
        go_wp2_with fail
        have hK0 : XtS w (.slice A0 l0.length c0) (.slice A1 l1.length c1) (.slice B0 m0.length d0) (.slice B1 m1.length d1) (((w.alloc (.cells #[.slice A0 l0.length c0, .slice A1 l1.length c1] 94)).alloc (.cells #[.slice B0 m0.length d0, .slice B1 m1.length d1] 94)).drewN nq).drew := hS0.step (below_drew1 (pw_below_drewN (Below.refl _ _) nq))
        clear hS0 x0 x1 x2 x3 hb0
        generalize ((w.alloc (.cells #[.slice A0 l0.length c0, .slice A1 l1.length c1] 94)).alloc (.cells #[.slice B0 m0.length d0, .slice B1 m1.length d1] 94)).drewN nq = W0 at *
        refine wp_region_held_drew (S := fun W => XtS w (.slice A0 l0.length c0) (.slice A1 l1.length c1) (.slice B0 m0.length d0) (.slice B1 m1.length d1) W) (by kernel_rfl) (by with_reducible exact hK0) (fun hHeld => ?_)
        refine wpAnyH_take (i := 0) (oi := { dst := some 13, op := Op.fieldAddr 94 (Operand.tmp 2) 0, type := 0, pos := "signature.go:188", after := #[], guard := none }) (v := ?_) rfl (by kernel_rfl) (by kernel_rfl) (by kernel_rfl) (fun _ _ _ h => h) (Or.inl ⟨by rfl, ?_⟩) (by assumption) ?_
        rotate_left
        · intro w' hSw; (try dsimp only at hSw); go_simp; try with_reducible rfl
        try simp only [Act.put, List.setIfInBounds_toArray, List.set_cons_zero, List.set_cons_succ]
        refine wpAnyH_take (i := 1) (oi := { dst := some 14, op := Op.load 91 (Operand.tmp 13), type := 91, pos := "signature.go:188", after := #[{ on := 0, ground := Ground.data }], guard := none }) (v := ?_) rfl (by kernel_rfl) (by kernel_rfl) (by kernel_rfl) (fun _ _ _ h => h) (Or.inl ⟨by rfl, ?_⟩) (by assumption) ?_
        rotate_left
        · intro w' hSw; (try dsimp only at hSw); go_simp; try with_reducible rfl
        try simp only [Act.put, List.setIfInBounds_toArray, List.set_cons_zero, List.set_cons_succ]
        refine wpAnyH_take (i := 2) (oi := { dst := some 15, op := Op.call { callee := Callee.builtin Builtin.len, args := #[Operand.tmp 14], argTypes := #[91] }, type := 3, pos := "signature.go:188", after := #[{ on := 1, ground := Ground.data }], guard := none }) (v := ?_) rfl (by kernel_rfl) (by kernel_rfl) (by kernel_rfl) (fun _ _ _ h => h) (Or.inl ⟨by rfl, ?_⟩) (by assumption) ?_
        rotate_left
        · intro w' hSw; (try dsimp only at hSw); go_simp; try with_reducible rfl
        try simp only [Act.put, List.setIfInBounds_toArray, List.set_cons_zero, List.set_cons_succ]
        refine wpAnyH_take (i := 3) (oi := { dst := some 16, op := Op.move (Operand.tmp 5), type := 3, pos := "signature.go:188", after := #[], guard := none }) (v := ?_) rfl (by kernel_rfl) (by kernel_rfl) (by kernel_rfl) (fun _ _ _ h => h) (Or.inl ⟨by rfl, ?_⟩) (by assumption) ?_
        rotate_left
        · intro w' hSw; (try dsimp only at hSw); go_simp; try with_reducible rfl
        try simp only [Act.put, List.setIfInBounds_toArray, List.set_cons_zero, List.set_cons_succ]
        refine wpAnyH_take (i := 4) (oi := { dst := some 17, op := Op.binOp BinOp.geq 3 (Operand.tmp 15) (Operand.tmp 16) 3, type := 4, pos := "signature.go:188", after := #[{ on := 2, ground := Ground.data }, { on := 3, ground := Ground.data }], guard := none }) (v := ?_) rfl (by kernel_rfl) (by kernel_rfl) (by kernel_rfl) (fun _ _ _ h => h) (Or.inl ⟨by rfl, ?_⟩) (by assumption) ?_
        rotate_left
        · intro w' hSw; (try dsimp only at hSw); go_simp; try with_reducible rfl
        try simp only [Act.put, List.setIfInBounds_toArray, List.set_cons_zero, List.set_cons_succ]
        refine wpAnyH_take (i := 5) (oi := { dst := some 18, op := Op.move (Operand.tmp 17), type := 4, pos := "signature.go:188", after := #[{ on := 4, ground := Ground.data }], guard := none }) (v := ?_) rfl (by kernel_rfl) (by kernel_rfl) (by kernel_rfl) (fun _ _ _ h => h) (Or.inl ⟨by rfl, ?_⟩) (by assumption) ?_
        rotate_left
        · intro w' hSw; (try dsimp only at hSw); go_simp; try with_reducible rfl
        try simp only [Act.put, List.setIfInBounds_toArray, List.set_cons_zero, List.set_cons_succ]
        refine wpAnyH_take (i := 6) (oi := { dst := some 19, op := Op.fieldAddr 94 (Operand.tmp 2) 1, type := 0, pos := "signature.go:188", after := #[{ on := 5, ground := Ground.guard }], guard := some (5, true) }) (v := ?_) rfl (by kernel_rfl) (by kernel_rfl) (by kernel_rfl) (fun _ _ _ h => h) (Or.inl ⟨by rfl, ?_⟩) (by assumption) ?_
        rotate_left
        · intro w' hSw; (try dsimp only at hSw); go_simp; try with_reducible rfl
        try simp only [Act.put, List.setIfInBounds_toArray, List.set_cons_zero, List.set_cons_succ]
        refine wpAnyH_take (i := 7) (oi := { dst := some 20, op := Op.load 92 (Operand.tmp 19), type := 92, pos := "signature.go:188", after := #[{ on := 6, ground := Ground.data }, { on := 5, ground := Ground.guard }], guard := some (5, true) }) (v := ?_) rfl (by kernel_rfl) (by kernel_rfl) (by kernel_rfl) (fun _ _ _ h => h) (Or.inl ⟨by rfl, ?_⟩) (by assumption) ?_
        rotate_left
        · intro w' hSw; (try dsimp only at hSw); go_simp; try with_reducible rfl
        try simp only [Act.put, List.setIfInBounds_toArray, List.set_cons_zero, List.set_cons_succ]
        refine wpAnyH_take (i := 8) (oi := { dst := some 21, op := Op.call { callee := Callee.builtin Builtin.len, args := #[Operand.tmp 20], argTypes := #[92] }, type := 3, pos := "signature.go:188", after := #[{ on := 7, ground := Ground.data }, { on := 5, ground := Ground.guard }], guard := some (5, true) }) (v := ?_) rfl (by kernel_rfl) (by kernel_rfl) (by kernel_rfl) (fun _ _ _ h => h) (Or.inl ⟨by rfl, ?_⟩) (by assumption) ?_
        rotate_left
        · intro w' hSw; (try dsimp only at hSw); go_simp; try with_reducible rfl
        try simp only [Act.put, List.setIfInBounds_toArray, List.set_cons_zero, List.set_cons_succ]
        refine wpAnyH_take (i := 9) (oi := { dst := some 22, op := Op.move (Operand.tmp 6), type := 3, pos := "signature.go:188", after := #[{ on := 5, ground := Ground.guard }], guard := some (5, true) }) (v := ?_) rfl (by kernel_rfl) (by kernel_rfl) (by kernel_rfl) (fun _ _ _ h => h) (Or.inl ⟨by rfl, ?_⟩) (by assumption) ?_
        rotate_left
        · intro w' hSw; (try dsimp only at hSw); go_simp; try with_reducible rfl
        try simp only [Act.put, List.setIfInBounds_toArray, List.set_cons_zero, List.set_cons_succ]
        refine wpAnyH_take (i := 10) (oi := { dst := some 23, op := Op.binOp BinOp.geq 3 (Operand.tmp 21) (Operand.tmp 22) 3, type := 4, pos := "signature.go:188", after := #[{ on := 8, ground := Ground.data }, { on := 9, ground := Ground.data }, { on := 5, ground := Ground.guard }], guard := some (5, true) }) (v := ?_) rfl (by kernel_rfl) (by kernel_rfl) (by kernel_rfl) (fun _ _ _ h => h) (Or.inl ⟨by rfl, ?_⟩) (by assumption) ?_
        rotate_left
        · intro w' hSw; (try dsimp only at hSw); go_simp; try with_reducible rfl
        try simp only [Act.put, List.setIfInBounds_toArray, List.set_cons_zero, List.set_cons_succ]
        refine wpAnyH_take (i := 11) (oi := { dst := some 24, op := Op.pick (Operand.tmp 18) (Operand.tmp 23) (Operand.const (Value.bool false)), type := 4, pos := "signature.go:188", after := #[{ on := 5, ground := Ground.data }, { on := 10, ground := Ground.data }], guard := none }) (v := ?_) rfl (by kernel_rfl) (by kernel_rfl) (by kernel_rfl) (fun _ _ _ h => h) (Or.inl ⟨by rfl, ?_⟩) (by assumption) ?_
        rotate_left
        · intro w' hSw; (try dsimp only at hSw); go_simp; try with_reducible rfl
        try simp only [Act.put, List.setIfInBounds_toArray, List.set_cons_zero, List.set_cons_succ]
        refine wpAnyH_take (i := 12) (oi := { dst := some 25, op := Op.move (Operand.tmp 24), type := 4, pos := "signature.go:188", after := #[{ on := 11, ground := Ground.data }, { on := 5, ground := Ground.chain }], guard := none }) (v := ?_) rfl (by kernel_rfl) (by kernel_rfl) (by kernel_rfl) (fun _ _ _ h => h) (Or.inl ⟨by rfl, ?_⟩) (by assumption) ?_
        rotate_left
        · intro w' hSw; (try dsimp only at hSw); go_simp; try with_reducible rfl
        try simp only [Act.put, List.setIfInBounds_toArray, List.set_cons_zero, List.set_cons_succ]
        refine wpAnyH_take (i := 13) (oi := { dst := some 26, op := Op.fieldAddr 94 (Operand.tmp 2) 0, type := 0, pos := "signature.go:188", after := #[{ on := 12, ground := Ground.guard }], guard := some (12, true) }) (v := ?_) rfl (by kernel_rfl) (by kernel_rfl) (by kernel_rfl) (fun _ _ _ h => h) (Or.inl ⟨by rfl, ?_⟩) (by assumption) ?_
        rotate_left
        · intro w' hSw; (try dsimp only at hSw); go_simp; try with_reducible rfl
        try simp only [Act.put, List.setIfInBounds_toArray, List.set_cons_zero, List.set_cons_succ]
        refine wpAnyH_take (i := 14) (oi := { dst := some 27, op := Op.load 91 (Operand.tmp 26), type := 91, pos := "signature.go:188", after := #[{ on := 13, ground := Ground.data }, { on := 12, ground := Ground.guard }], guard := some (12, true) }) (v := ?_) rfl (by kernel_rfl) (by kernel_rfl) (by kernel_rfl) (fun _ _ _ h => h) (Or.inl ⟨by rfl, ?_⟩) (by assumption) ?_
        rotate_left
        · intro w' hSw; (try dsimp only at hSw); go_simp; try with_reducible rfl
        try simp only [Act.put, List.setIfInBounds_toArray, List.set_cons_zero, List.set_cons_succ]
        refine wpAnyH_take (i := 15) (oi := { dst := some 28, op := Op.move (Operand.tmp 5), type := 3, pos := "signature.go:188", after := #[{ on := 12, ground := Ground.guard }], guard := some (12, true) }) (v := ?_) rfl (by kernel_rfl) (by kernel_rfl) (by kernel_rfl) (fun _ _ _ h => h) (Or.inl ⟨by rfl, ?_⟩) (by assumption) ?_
        rotate_left
        · intro w' hSw; (try dsimp only at hSw); go_simp; try with_reducible rfl
        try simp only [Act.put, List.setIfInBounds_toArray, List.set_cons_zero, List.set_cons_succ]
        refine wpAnyH_take (i := 16) (oi := { dst := some 29, op := Op.slice 91 (Operand.tmp 27) none (some (Operand.tmp 28)) none, type := 91, pos := "signature.go:188", after := #[{ on := 14, ground := Ground.data }, { on := 15, ground := Ground.data }, { on := 12, ground := Ground.guard }], guard := some (12, true) }) (v := ?_) rfl (by kernel_rfl) (by kernel_rfl) (by kernel_rfl) (fun _ _ _ h => h) (Or.inl ⟨by rfl, ?_⟩) (by assumption) ?_
        rotate_left
        · intro w' hSw; (try dsimp only at hSw); go_simp; try with_reducible rfl
        try simp only [Act.put, List.setIfInBounds_toArray, List.set_cons_zero, List.set_cons_succ]
        refine wpAnyH_take (i := 17) (oi := { dst := some 30, op := Op.fieldAddr 94 (Operand.tmp 3) 0, type := 0, pos := "signature.go:188", after := #[{ on := 12, ground := Ground.guard }], guard := some (12, true) }) (v := ?_) rfl (by kernel_rfl) (by kernel_rfl) (by kernel_rfl) (fun _ _ _ h => h) (Or.inl ⟨by rfl, ?_⟩) (by assumption) ?_
        rotate_left
        · intro w' hSw; (try dsimp only at hSw); go_simp; try with_reducible rfl
        try simp only [Act.put, List.setIfInBounds_toArray, List.set_cons_zero, List.set_cons_succ]
        refine wpAnyH_take (i := 18) (oi := { dst := some 31, op := Op.load 91 (Operand.tmp 30), type := 91, pos := "signature.go:188", after := #[{ on := 17, ground := Ground.data }, { on := 12, ground := Ground.guard }], guard := some (12, true) }) (v := ?_) rfl (by kernel_rfl) (by kernel_rfl) (by kernel_rfl) (fun _ _ _ h => h) (Or.inl ⟨by rfl, ?_⟩) (by assumption) ?_
        rotate_left
        · intro w' hSw; (try dsimp only at hSw); go_simp; try with_reducible rfl
        try simp only [Act.put, List.setIfInBounds_toArray, List.set_cons_zero, List.set_cons_succ]
        refine wpAnyH_ready (rs := [19]) (by kernel_rfl) (by simp) ?_
        refine AllReadyH.cons (o := { dst := some 32, op := Op.call { callee := Callee.value (Operand.func 152), args := #[Operand.tmp 29, Operand.tmp 31], argTypes := #[91, 91] }, type := 4, pos := "signature.go:188", after := #[{ on := 16, ground := Ground.data }, { on := 18, ground := Ground.data }, { on := 12, ground := Ground.chain }, { on := 12, ground := Ground.guard }], guard := some (12, true) }) rfl (fun K hK => ?_) AllReadyH.nil
        go_simp
        go_wp2_with (go_at_call 152; (with_reducible refine (heq2 _ (by with_reducible assumption)).mono ?_); rintro e w1 ⟨rfl, hN⟩)
        refine hK.out _ _ (by with_reducible assumption) (fun hHeld => ?_)
        clear hK K
        try simp only [Act.put, List.setIfInBounds_toArray, List.set_cons_zero, List.set_cons_succ]
        refine wpAnyH_take (i := 20) (oi := { dst := some 33, op := Op.pick (Operand.tmp 25) (Operand.tmp 32) (Operand.const (Value.bool false)), type := 4, pos := "signature.go:188", after := #[{ on := 12, ground := Ground.data }, { on := 19, ground := Ground.data }], guard := none }) (v := ?_) rfl (by kernel_rfl) (by kernel_rfl) (by kernel_rfl) (fun _ _ _ h => h) (Or.inl ⟨by rfl, ?_⟩) (by assumption) ?_
        rotate_left
        · intro w' hSw; (try dsimp only at hSw); go_simp; try with_reducible rfl
        try simp only [Act.put, List.setIfInBounds_toArray, List.set_cons_zero, List.set_cons_succ]
        refine wpAnyH_take (i := 21) (oi := { dst := some 34, op := Op.move (Operand.tmp 33), type := 4, pos := "signature.go:188", after := #[{ on := 20, ground := Ground.data }, { on := 19, ground := Ground.chain }], guard := none }) (v := ?_) rfl (by kernel_rfl) (by kernel_rfl) (by kernel_rfl) (fun _ _ _ h => h) (Or.inl ⟨by rfl, ?_⟩) (by assumption) ?_
        rotate_left
        · intro w' hSw; (try dsimp only at hSw); go_simp; try with_reducible rfl
        try simp only [Act.put, List.setIfInBounds_toArray, List.set_cons_zero, List.set_cons_succ]
        refine wpAnyH_take (i := 22) (oi := { dst := some 35, op := Op.fieldAddr 94 (Operand.tmp 2) 1, type := 0, pos := "signature.go:188", after := #[{ on := 21, ground := Ground.guard }], guard := some (21, true) }) (v := undef) rfl (by kernel_rfl) (by kernel_rfl) (by kernel_rfl) (fun _ _ _ h => h) (Or.inr ⟨by rfl, rfl⟩) (by assumption) ?_
        try simp only [Act.put, List.setIfInBounds_toArray, List.set_cons_zero, List.set_cons_succ]
        refine wpAnyH_take (i := 23) (oi := { dst := some 36, op := Op.load 92 (Operand.tmp 35), type := 92, pos := "signature.go:188", after := #[{ on := 22, ground := Ground.data }, { on := 21, ground := Ground.guard }], guard := some (21, true) }) (v := undef) rfl (by kernel_rfl) (by kernel_rfl) (by kernel_rfl) (fun _ _ _ h => h) (Or.inr ⟨by rfl, rfl⟩) (by assumption) ?_
        try simp only [Act.put, List.setIfInBounds_toArray, List.set_cons_zero, List.set_cons_succ]
        refine wpAnyH_take (i := 24) (oi := { dst := some 37, op := Op.move (Operand.tmp 6), type := 3, pos := "signature.go:188", after := #[{ on := 21, ground := Ground.guard }], guard := some (21, true) }) (v := undef) rfl (by kernel_rfl) (by kernel_rfl) (by kernel_rfl) (fun _ _ _ h => h) (Or.inr ⟨by rfl, rfl⟩) (by assumption) ?_
        try simp only [Act.put, List.setIfInBounds_toArray, List.set_cons_zero, List.set_cons_succ]
        refine wpAnyH_take (i := 25) (oi := { dst := some 38, op := Op.slice 92 (Operand.tmp 36) none (some (Operand.tmp 37)) none, type := 92, pos := "signature.go:188", after := #[{ on := 23, ground := Ground.data }, { on := 24, ground := Ground.data }, { on := 21, ground := Ground.guard }], guard := some (21, true) }) (v := undef) rfl (by kernel_rfl) (by kernel_rfl) (by kernel_rfl) (fun _ _ _ h => h) (Or.inr ⟨by rfl, rfl⟩) (by assumption) ?_
        try simp only [Act.put, List.setIfInBounds_toArray, List.set_cons_zero, List.set_cons_succ]
        refine wpAnyH_take (i := 26) (oi := { dst := some 39, op := Op.fieldAddr 94 (Operand.tmp 3) 1, type := 0, pos := "signature.go:188", after := #[{ on := 21, ground := Ground.guard }], guard := some (21, true) }) (v := undef) rfl (by kernel_rfl) (by kernel_rfl) (by kernel_rfl) (fun _ _ _ h => h) (Or.inr ⟨by rfl, rfl⟩) (by assumption) ?_
        try simp only [Act.put, List.setIfInBounds_toArray, List.set_cons_zero, List.set_cons_succ]
        refine wpAnyH_take (i := 27) (oi := { dst := some 40, op := Op.load 92 (Operand.tmp 39), type := 92, pos := "signature.go:188", after := #[{ on := 26, ground := Ground.data }, { on := 21, ground := Ground.guard }], guard := some (21, true) }) (v := undef) rfl (by kernel_rfl) (by kernel_rfl) (by kernel_rfl) (fun _ _ _ h => h) (Or.inr ⟨by rfl, rfl⟩) (by assumption) ?_
        try simp only [Act.put, List.setIfInBounds_toArray, List.set_cons_zero, List.set_cons_succ]
        refine wpAnyH_take (i := 28) (oi := { dst := some 41, op := Op.call { callee := Callee.value (Operand.func 153), args := #[Operand.tmp 38, Operand.tmp 40, Operand.func 154], argTypes := #[92, 92, 169] }, type := 4, pos := "signature.go:188", after := #[{ on := 25, ground := Ground.data }, { on := 27, ground := Ground.data }, { on := 21, ground := Ground.chain }, { on := 21, ground := Ground.guard }], guard := some (21, true) }) (v := undef) rfl (by kernel_rfl) (by kernel_rfl) (by kernel_rfl) (fun _ _ _ h => h) (Or.inr ⟨by rfl, rfl⟩) (by assumption) ?_
        try simp only [Act.put, List.setIfInBounds_toArray, List.set_cons_zero, List.set_cons_succ]
        refine wpAnyH_take (i := 29) (oi := { dst := some 42, op := Op.pick (Operand.tmp 34) (Operand.tmp 41) (Operand.const (Value.bool false)), type := 4, pos := "signature.go:188", after := #[{ on := 21, ground := Ground.data }, { on := 28, ground := Ground.data }], guard := none }) (v := ?_) rfl (by kernel_rfl) (by kernel_rfl) (by kernel_rfl) (fun _ _ _ h => h) (Or.inl ⟨by rfl, ?_⟩) (by assumption) ?_
        rotate_left
        · intro w' hSw; (try dsimp only at hSw); go_simp; try with_reducible rfl
        try simp only [Act.put, List.setIfInBounds_toArray, List.set_cons_zero, List.set_cons_succ]
        refine wpAnyH_take (i := 30) (oi := { dst := some 4, op := Op.assign (Operand.tmp 42), type := 4, pos := "signature.go:188", after := #[{ on := 29, ground := Ground.data }, { on := 28, ground := Ground.chain }, { on := 0, ground := Ground.phase }, { on := 1, ground := Ground.phase }, { on := 2, ground := Ground.phase }, { on := 3, ground := Ground.phase }, { on := 4, ground := Ground.phase }, { on := 5, ground := Ground.phase }, { on := 6, ground := Ground.phase }, { on := 7, ground := Ground.phase }, { on := 8, ground := Ground.phase }, { on := 9, ground := Ground.phase }, { on := 10, ground := Ground.phase }, { on := 11, ground := Ground.phase }, { on := 12, ground := Ground.phase }, { on := 13, ground := Ground.phase }, { on := 14, ground := Ground.phase }, { on := 15, ground := Ground.phase }, { on := 16, ground := Ground.phase }, { on := 17, ground := Ground.phase }, { on := 18, ground := Ground.phase }, { on := 19, ground := Ground.phase }, { on := 20, ground := Ground.phase }, { on := 21, ground := Ground.phase }, { on := 22, ground := Ground.phase }, { on := 23, ground := Ground.phase }, { on := 24, ground := Ground.phase }, { on := 25, ground := Ground.phase }, { on := 26, ground := Ground.phase }, { on := 27, ground := Ground.phase }, { on := 28, ground := Ground.phase }, { on := 29, ground := Ground.phase }], guard := none }) (v := ?_) rfl (by kernel_rfl) (by kernel_rfl) (by kernel_rfl) (fun _ _ _ h => h) (Or.inl ⟨by rfl, ?_⟩) (by assumption) ?_
        rotate_left
        · intro w' hSw; (try dsimp only at hSw); go_simp; try with_reducible rfl
        try simp only [Act.put, List.setIfInBounds_toArray, List.set_cons_zero, List.set_cons_succ]
        refine wpAnyH_done (by kernel_rfl) ?_ _
        go_wp2_with fail
        go_ret
        exact ⟨by simp, hN.below⟩
    · have q1 : decide ((m1.length : Int) ≤ (l1.length : Int)) = false := decide_eq_false (by omega)
      have hE : extB l0 l1 m0 m1 = false := by rw [extB, preB_short eqC eqC_iff (by omega)]; simp
      rw [hE]
      clear hE
      go_enter Try.func79, Try.ntmps79
      go_wp2_with fail
      go_quiet (fail)
      go_wp2_with fail
      have hK0 : XtS w (.slice A0 l0.length c0) (.slice A1 l1.length c1) (.slice B0 m0.length d0) (.slice B1 m1.length d1) (((w.alloc (.cells #[.slice A0 l0.length c0, .slice A1 l1.length c1] 94)).alloc (.cells #[.slice B0 m0.length d0, .slice B1 m1.length d1] 94)).drewN nq) := hS0.step (pw_below_drewN (Below.refl _ _) nq)
      obtain ⟨x0, x1, x2, x3, hb0⟩ := id hK0
      clear hS0
      generalize ((w.alloc (.cells #[.slice A0 l0.length c0, .slice A1 l1.length c1] 94)).alloc (.cells #[.slice B0 m0.length d0, .slice B1 m1.length d1] 94)).drewN nq = W0 at *
      go_quiet (fail)
      go_wp2_with fail
      go_ret
      exact ⟨by simp, pw_below_drewN hb0 _⟩
  · have q0 : decide ((m0.length : Int) ≤ (l0.length : Int)) = false := decide_eq_false (by omega)
    have hE : extB l0 l1 m0 m1 = false := by rw [extB, preB_short eqO eqO_iff (by omega)]; simp
    rw [hE]
    clear hE
    go_enter Try.func79, Try.ntmps79
    go_wp2_with fail
    go_quiet (fail)
    go_wp2_with fail
    have hK0 : XtS w (.slice A0 l0.length c0) (.slice A1 l1.length c1) (.slice B0 m0.length d0) (.slice B1 m1.length d1) (((w.alloc (.cells #[.slice A0 l0.length c0, .slice A1 l1.length c1] 94)).alloc (.cells #[.slice B0 m0.length d0, .slice B1 m1.length d1] 94)).drewN nq) := hS0.step (pw_below_drewN (Below.refl _ _) nq)
    obtain ⟨x0, x1, x2, x3, hb0⟩ := id hK0
    clear hS0
    generalize ((w.alloc (.cells #[.slice A0 l0.length c0, .slice A1 l1.length c1] 94)).alloc (.cells #[.slice B0 m0.length d0, .slice B1 m1.length d1] 94)).drewN nq = W0 at *
    go_quiet (fail)
    go_wp2_with fail
    go_ret
    exact ⟨by simp, pw_below_drewN hb0 _⟩
end Go.Proofs.Ytecplbgdalchdaa.Q
/- Proved here: the contracts of signature.Same and Const. Conditions: those that each theorem names. -/
namespace Go.Proofs.Ytecplbgdalchdaa.Q
open Go.RowKit Go.Shelf Go.Proofs.YtecplbgdalchdaaW.PrintWords Go.Proofs.YtecplbgdalchdaaW.PrintMore
set_option linter.unusedVariables false
set_option linter.unusedSimpArgs false
attribute [local go_sem] Oper.semAt_some

theorem sameB_ext (l0 : List S106) (l1 : List S108) (m0 : List S106) (m1 : List S108) (h0 : l0.length = m0.length) (h1 : l1.length = m1.length) : sameB l0 l1 m0 m1 = extB l0 l1 m0 m1 := by
  rw [Bool.eq_iff_iff, sameB_iff, extB_iff]
  constructor
  · rintro ⟨rfl, rfl⟩; exact ⟨List.prefix_refl _, List.prefix_refl _⟩
  · rintro ⟨p, q⟩; exact ⟨(p.eq_of_length h0.symm).symm, (q.eq_of_length h1.symm).symm⟩
theorem sameB_no (l0 : List S106) (l1 : List S108) (m0 : List S106) (m1 : List S108) (h : ¬ (l0.length = m0.length ∧ l1.length = m1.length)) : sameB l0 l1 m0 m1 = false := by
  rw [← Bool.not_eq_true, sameB_iff]
  rintro ⟨rfl, rfl⟩
  exact h ⟨rfl, rfl⟩
set_option maxHeartbeats 4000000 in
set_option maxRecDepth 100000 in
theorem sigsame_calls (A0 : Option Addr) (c0 : Nat) (l0 : List S106) (A1 : Option Addr) (c1 : Nat) (l1 : List S108) (B0 : Option Addr) (d0 : Nat) (m0 : List S106) (B1 : Option Addr) (d1 : Nat) (m1 : List S108) (w : World)
    (hr0 : Kd.C k106 w A0 l0.length l0) (hc0 : l0.length ≤ c0) (hr1 : Kd.C k108 w A1 l1.length l1) (hc1 : l1.length ≤ c1) (hs0 : Kd.C k106 w B0 m0.length m0) (hd0 : m0.length ≤ d0) (hs1 : Kd.C k108 w B1 m1.length m1) (hd1 : m1.length ≤ d1)
    (hz : l0.length ≤ 4611686018427387904 ∧ l1.length ≤ 4611686018427387904) :
    Calls Try.prog 81 #[.agg #[.slice A0 l0.length c0, .slice A1 l1.length c1], .agg #[.slice B0 m0.length d0, .slice B1 m1.length d1]] w fun e w' => e = .returned (.bool (sameB l0 l1 m0 m1)) ∧ Below w.heap.size w w' := by
  have hS0 := XtS.start w (.slice A0 l0.length c0) (.slice A1 l1.length c1) (.slice B0 m0.length d0) (.slice B1 m1.length d1)
  obtain ⟨x0, x1, x2, x3, hb0⟩ := id hS0
  have hex := extends_calls A0 c0 l0 A1 c1 l1 B0 d0 m0 B1 d1 m1 _ (Kd.C_below hr0 hb0) hc0 (Kd.C_below hr1 hb0) hc1 (Kd.C_below hs0 hb0) hd0 (Kd.C_below hs1 hb0) hd1 hz
  clear hr0 hr1 hs0 hs1 hS0
  by_cases p0 : l0.length = m0.length
  · have q0 : decide (l0.length = m0.length) = true := decide_eq_true p0
    have q0' : ((l0.length : Int) == (m0.length : Int)) = true := by rw [p0]; simp
    by_cases p1 : l1.length = m1.length
    · have q1 : decide (l1.length = m1.length) = true := decide_eq_true p1
      have q1' : ((l1.length : Int) == (m1.length : Int)) = true := by rw [p1]; simp
      rw [sameB_ext l0 l1 m0 m1 p0 p1]
      clear p0 p1
      generalize extB l0 l1 m0 m1 = r at *
      go_enter Try.func81, Try.ntmps81
      go_wp2_with (go_at_call 79; (with_reducible refine hex.mono ?_); rintro e W1 ⟨rfl, hb⟩)
      go_ret
      exact ⟨by simp, below_step hb0 hb⟩
    · have q1 : decide (l1.length = m1.length) = false := decide_eq_false p1
      have q1' : ((l1.length : Int) == (m1.length : Int)) = false := beq_eq_false_iff_ne.mpr (by omega)
      rw [sameB_no l0 l1 m0 m1 (fun h => p1 h.2)]
      clear p0 p1 hex
      go_enter Try.func81, Try.ntmps81
      go_wp2_with fail
      go_ret
      exact ⟨by simp, hb0⟩
  · have q0 : decide (l0.length = m0.length) = false := decide_eq_false p0
    have q0' : ((l0.length : Int) == (m0.length : Int)) = false := beq_eq_false_iff_ne.mpr (by omega)
    rw [sameB_no l0 l1 m0 m1 (fun h => p0 h.1)]
    clear p0 hex
    go_enter Try.func81, Try.ntmps81
    go_wp2_with fail
    go_ret
    exact ⟨by simp, hb0⟩

/-! ### Const -/
def ConstPost (w : World) (r : Option S24) (e : Ending) (w' : World) : Prop := ∃ v, e = .returned (.tuple #[.agg #[.bool (toC r).1, .string (toC r).2.1, v], .bool (toC r).2.2.2]) ∧ WT w' (fun k => w.heap.size ≤ k) v (toC r).2.2.1 ∧ Below w.heap.size w w'
set_option maxHeartbeats 4000000 in
set_option maxRecDepth 100000 in
theorem sigconst_calls (A0 : Option Addr) (c0 : Nat) (l0 : List S106) (A1 : Option Addr) (c1 : Nat) (l1 : List S108) (n : ByteArray) (w : World) (hr1 : Kd.C k108 w A1 l1.length l1) (hz : ∀ x, x ∈ l1 → szT x.f1 ≤ 5864062014805) :
    Calls Try.prog 73 #[.agg #[.slice A0 l0.length c0, .slice A1 l1.length c1], .string n] w (ConstPost w (lkC n l1)) := by
  have hb0 := (two_new w (.cells #[.slice A0 l0.length c0, .slice A1 l1.length c1] 94) (.cells #[.bool false, .string ⟨#[]⟩, .slice none 0 0] 24)).1
  have BX := (two_new w (.cells #[.slice A0 l0.length c0, .slice A1 l1.length c1] 94) (.cells #[.bool false, .string ⟨#[]⟩, .slice none 0 0] 24)).2.1
  have BR := (two_new w (.cells #[.slice A0 l0.length c0, .slice A1 l1.length c1] 94) (.cells #[.bool false, .string ⟨#[]⟩, .slice none 0 0] 24)).2.2
  obtain ⟨x0, x1, _, _⟩ := box2k BX
  have H1 := Aside0.mk hr1
  have HZ := Aside0.mk hz
  have hlen : l1.length ≤ 9223372036854775807 := hr1.2.1
  clear hr1 hz
  go_enter Try.func73, Try.ntmps73
  go_wp2_with fail
  generalize (w.alloc (.cells #[.slice A0 l0.length c0, .slice A1 l1.length c1] 94)).alloc (.cells #[.bool false, .string ⟨#[]⟩, .slice none 0 0] 24) = W0 at *
  have hst : Below w.heap.size w W0 ∧ W0.heap[w.heap.size + 1]? = some (.cells #[.bool false, .string ⟨#[]⟩, .slice none 0 0] 24 (0, 0)) := ⟨hb0, BR⟩
  clear x0 x1 BX hb0 BR
  replace hst := Aside0.mk hst
  go_loopg [11] l1.length (fun gg s11 wr => ∃ kk : Nat, kk ≤ l1.length ∧ gg + kk = l1.length ∧ s11 = .int .i64 (kk : Int) ∧ Aside0 (lkC n l1 = lkC n (l1.drop kk)) ∧ Aside0 (Below w.heap.size w wr ∧ wr.heap[w.heap.size + 1]? = some (.cells #[.bool false, .string ⟨#[]⟩, .slice none 0 0] 24 (0, 0))))
  case atStart => exact ⟨0, by omega, by omega, rfl, ⟨rfl⟩, hst⟩
  case round =>
    obtain ⟨kk, hk1, hk2, rfl, HC, HW⟩ := hrel
    clear hst
    obtain ⟨hb, BR⟩ := HW.out
    clear HW
    by_cases hkk : kk < l1.length
    · have q0 : decide (kk < l1.length) = true := decide_eq_true hkk
      have hltz : (kk : Int) < (l1.length : Int) := by omega
      obtain ⟨ad, A2, c2, e1, hx0, hx1, hx2, hx3, hl2, hi2⟩ := at_T108 (Kd.C_below H1.out hb) (kk : Int) (by omega) hltz
      cases e1
      simp only [Int.toNat_natCast] at hx0 hx1 hx2 hx3
      have hC := HC.out
      have hzx := HZ.out _ (getD_mem l1 z108 kk hkk)
      have hX : rd_T108 l1 kk = l1.getD kk z108 := rfl
      rw [← hX] at hzx
      rw [drop_co l1 kk hkk, lkC] at hC
      clear hX
      generalize rd_T108 l1 kk = x at *
      have hcall := fun W (hw : Below wr.heap.size wr W) => twin_calls _ x.f1 A2 c2 W (Nat.le_refl _) hzx (Kd.C_below hi2 hw) hl2
      have hnew := blk_new wr (.cells #[.string x.f0, .bool x.f1.f0, .string x.f1.f1, .slice A2 x.f1.f2.length c2] 108)
      obtain ⟨y0, y1, y2, y3⟩ := box4k hnew
      have hb1 := below_one (w := wr) (.cells #[.string x.f0, .bool x.f1.f0, .string x.f1.f1, .slice A2 x.f1.f2.length c2] 108)
      have hbk := below_step hb hb1
      have BR1 := blk_below BR hb1
      clear hnew hzx hi2 hl2
      by_cases hn : x.f0 = n
      · have q1 : (x.f0.toList == n.toList) = true := by rw [hn]; simp
        rw [if_pos hn] at hC
        have HCC := Aside0.mk hC
        clear hC HC hn
        go_wp2_with (go_at_call 99; (with_reducible refine (hcall _ hb1).mono ?_); rintro e W1 ⟨v, rfl, hT, hbT⟩; obtain ⟨A4, c4, hv4, hl4, hC4⟩ := hT.reads; subst hv4; have BR2 := blk_below BR1 hbT; obtain ⟨r0, r1, r2, r3, r4, r5, r6⟩ := box3s BR2)
        have hfr := (((below_step hbk hbT).setCell (p := ⟨w.heap.size + 1, 0, none⟩) (by simp) (.bool x.f1.f0)).setCell (p := ⟨w.heap.size + 1, 1, none⟩) (by simp) (.string x.f1.f1)).setCell (p := ⟨w.heap.size + 1, 2, none⟩) (by simp) (.slice A4 x.f1.f2.length c4)
        refine bodyPost_ret (results_ct rfl _ _ (w.heap.size + 1) 24 #[.bool x.f1.f0, .string x.f1.f1, .slice A4 x.f1.f2.length c4] (0, 0) _ rfl (set3 BR2) Try.underlying24 rfl (by kernel_rfl)) rfl ?_
        have hz1 := hbk.size
        have hlt := blk_lt BR
        refine ⟨.slice A4 x.f1.f2.length c4, by rw [HCC.out]; rfl, ?_, hfr⟩
        rw [HCC.out]
        refine WT.mono (((hT.far _ _ ?_).far _ _ ?_).far _ _ ?_) (fun k hk => ?_)
        all_goals first | (intro k hk; show k ≠ w.heap.size + 1; simp at hk; omega) | (simp at hk; omega)
      · have q1 : (x.f0.toList == n.toList) = false := beq_eq_false_iff_ne.mpr (fun h => hn ((bytes_toList _ _).1 h))
        rw [if_neg hn] at hC
        have HCC := Aside0.mk hC
        clear hC HC hn hcall
        go_wp2_with fail
        go_roundg (l1.length - kk - 1)
        case measure => omega
        case rel => exact ⟨kk + 1, by omega, by omega, by go_num, HCC, ⟨⟨hbk, BR1⟩⟩⟩
    · have q0 : decide (kk < l1.length) = false := decide_eq_false hkk
      have hC := HC.out
      rw [List.drop_of_length_le (show l1.length ≤ kk by omega), lkC] at hC
      have HCC := Aside0.mk hC
      obtain ⟨r0, r1, r2, r3, r4, r5, r6⟩ := box3s BR
      clear hC HC
      go_wp2_with fail
      refine bodyPost_ret (results_ct rfl _ _ (w.heap.size + 1) 24 #[.bool false, .string ⟨#[]⟩, .slice none 0 0] (0, 0) _ rfl (set3 BR) Try.underlying24 rfl (by kernel_rfl)) rfl ?_
      refine ⟨.slice none 0 0, by rw [HCC.out]; rfl, by rw [HCC.out]; exact .nil _ _, ((hb.setCell (p := ⟨w.heap.size + 1, 0, none⟩) (by simp) (.bool false)).setCell (p := ⟨w.heap.size + 1, 1, none⟩) (by simp) (.string ⟨#[]⟩)).setCell (p := ⟨w.heap.size + 1, 2, none⟩) (by simp) (.slice none 0 0)⟩
end Go.Proofs.Ytecplbgdalchdaa.Q
