/- Proved here: parts of the proof of a given statement (HRowSignatureAdds): contracts of the functions that it reaches, what they answer, and in the last text the statement itself. Conditions: those that each theorem names. -/
import Derived.Test.YtgnklkmifcmlhaaZSAX17
import Derived.Test.YtgnklkmifcmlhaaZSAX12
import Derived.Test.YtgnklkmifcmlhaaZSAX7
import Derived.Test.YtgnklkmifcmlhaaZSAX18
import Derived.Test.YtgnklkmifcmlhaaZSAX19
import Derived.Test.YtgnklkmifcmlhaaZSAX20
/- Proved here: the reference's functions on signatures answer as the program's. Conditions: those that each theorem names. -/
namespace Go.Proofs.Ytgnklkmifcmlhaa.Q
open Go.RowKit Go.Shelf Go.Proofs.YtgnklkmifcmlhaaW.PrintWords Go.Proofs.YtgnklkmifcmlhaaW.PrintMore
set_option linter.unusedVariables false
set_option linter.unusedSimpArgs false

theorem rdTO (l : List S124) (j : Nat) (h : j < l.length) : rd_T124 l (j : Int) = l[j] := by
  unfold rd_T124
  simp only [Int.toNat_natCast]
  rw [List.getD_eq_getElem?_getD, List.getElem?_eq_getElem h]
  rfl
theorem rdCO (l : List S92) (j : Nat) (h : j < l.length) : rd_T92 l (j : Int) = l[j] := by
  unfold rd_T92
  simp only [Int.toNat_natCast]
  rw [List.getD_eq_getElem?_getD, List.getElem?_eq_getElem h]
  rfl
theorem bts (a b : ByteArray) : a.toList = b.toList ↔ a = b := ⟨fun h => (bytes_toList a b).1 h, fun h => by rw [h]⟩
/-! ### Operators by name -/
def lkO (n : ByteArray) : List S124 → Option Int
  | [] => none
  | o :: l => if o.f0 = n then some o.f1 else lkO n l
mutual
def ovG (lk : ByteArray → Option Int) : S25 → Bool
  | ⟨v, n, l⟩ => v || (decide (lk n = some (l.length : Int)) && ovGL lk l)
def ovGL (lk : ByteArray → Option Int) : List S25 → Bool
  | [] => true
  | a :: l => ovG lk a && ovGL lk l
end
theorem ovG_eq (lk : ByteArray → Option Int) (t : S25) : ovG lk t = (t.f0 || (decide (lk t.f1 = some (t.f2.length : Int)) && ovGL lk t.f2)) := by cases t; simp [ovG]
mutual
theorem ovG_over (d : List (ByteArray × Int)) : ∀ t, overT d t = ovG (fun n => lookK n d) t
  | ⟨v, n, l⟩ => by simp only [overT, ovG, ovGL_over d l]
theorem ovGL_over (d : List (ByteArray × Int)) : ∀ l, overL d l = ovGL (fun n => lookK n d) l
  | [] => rfl
  | a :: l => by simp only [overL, ovGL, ovG_over d a, ovGL_over d l]
end
def toR (r : Option Int) : Int × Bool := match r with | some a => (a, true) | none => (0, false)
theorem typeop_ev (l0 : List S124) (l1 : List S92) (n : ByteArray) (hl : l0.length ≤ 4611686018427387904) : Ev (fun k => sequentref04_TypeOp.f k l0 l1 n) (toR (lkO n l0)) := by
  simp only [sequentref04_TypeOp.f]
  refine Ev.val (down (fun j => Ev (fun k => sequentref04_TypeOp.l0 k n (j : Int) l0 l1) (toR (lkO n (l0.drop j)))) l0.length ?_ ?_) (by simp)
  · refine Ev.succ ?_
    simp only [sequentref04_TypeOp.l0]
    exact Ev.neg (by omega) ((Ev.pure _).val (by simp [lkO, toR]))
  · intro j hj ih
    refine Ev.succ ?_
    simp only [sequentref04_TypeOp.l0]
    refine Ev.pos (by omega) (Ev.pos (by omega) ?_)
    rw [rdTO l0 j hj, List.drop_eq_getElem_cons hj, lkO]
    refine Ev.ite (fun e => (Ev.pure _).val ?_) (fun e => ?_)
    · rw [if_pos ((bts _ _).1 e)]
      rfl
    · rw [w64s (by omega), if_neg (fun h => e ((bts _ _).2 h))]
      exact ih
theorem overg_ev (l0 : List S124) (l1 : List S92) (hl : l0.length ≤ 4611686018427387904) : ∀ (n : Nat) (t : S25), szT t ≤ n → szT t ≤ 4611686018427387904 → Ev (fun k => sequentref04_OverType.f k l0 l1 t.f0 t.f1 t.f2) (ovG (fun n => lkO n l0) t)
  | 0, t, h, _ => by have := szT_pos t; omega
  | n + 1, t, hn, hs => by
    have hz := szT_eq' t
    have hlen := szL_len t.f2
    have hloop : Ev (fun k => sequentref04_OverType.l0 k 0 l0 l1 t.f0 t.f1 t.f2) (ovGL (fun n => lkO n l0) t.f2) := by
      refine Ev.val (down (fun j => Ev (fun k => sequentref04_OverType.l0 k (j : Int) l0 l1 t.f0 t.f1 t.f2) (ovGL (fun n => lkO n l0) (t.f2.drop j))) t.f2.length ?_ ?_) (by simp)
      · refine Ev.succ ?_
        simp only [sequentref04_OverType.l0]
        exact Ev.neg (by omega) ((Ev.pure _).val (by simp [ovGL]))
      · intro j hj ih
        refine Ev.succ ?_
        simp only [sequentref04_OverType.l0]
        refine Ev.pos (by omega) (Ev.pos (by omega) ?_)
        rw [rdT t.f2 j hj, List.drop_eq_getElem_cons hj, ovGL]
        have hm := szL_mem t.f2 _ (List.getElem_mem hj)
        refine Ev.bind (overg_ev l0 l1 hl n t.f2[j] (by omega) (by omega)) (Ev.ite (fun e => ?_) (fun e => (Ev.pure _).val ?_))
        · rw [w64s (by omega), e, Bool.true_and]
          exact ih
        · rw [Bool.not_eq_true] at e
          rw [e]
          rfl
    have hj : ∀ b : Bool, Ev (fun k => sequentref04_OverType.j0 k b l0 l1 t.f0 t.f1 t.f2) (!b && ovGL (fun n => lkO n l0) t.f2) := fun b => by
      refine Ev.succ ?_
      simp only [sequentref04_OverType.j0]
      cases b with
      | true => exact Ev.pos rfl ((Ev.pure _).val rfl)
      | false => exact Ev.neg (by simp) (hloop.val (by simp))
    refine Ev.succ ?_
    simp only [sequentref04_OverType.f]
    rw [ovG_eq]
    refine Ev.ite (fun e => (Ev.pure _).val (by rw [e]; rfl)) (fun e => ?_)
    rw [Bool.not_eq_true] at e
    rw [show (t.f0 || (decide (lkO t.f1 l0 = some (t.f2.length : Int)) && ovGL (fun n => lkO n l0) t.f2)) = (decide (lkO t.f1 l0 = some (t.f2.length : Int)) && ovGL (fun n => lkO n l0) t.f2) from by rw [e]; rfl]
    have ht := typeop_ev l0 l1 t.f1 hl
    cases hlk : lkO t.f1 l0 with
    | none =>
      rw [hlk] at ht
      refine Ev.bind ht (Ev.neg (by simp [toR]) ((hj true).val (by simp)))
    | some a =>
      rw [hlk] at ht
      refine Ev.bind ht (Ev.pos rfl ((hj _).val ?_))
      by_cases ha : a = (t.f2.length : Int)
      · subst ha
        simp [toR]
      · simp [toR, ha]
/-! ### Different names -/
def dstK : List ByteArray → List ByteArray → Bool
  | _, [] => true
  | s, a :: l => !inS s a && dstK (s ++ [a]) l
def addL : List ByteArray → List ByteArray → List ByteArray
  | s, [] => s
  | s, a :: l => addL (addS a s) l
theorem addL_le : ∀ (l s : List ByteArray), (addL s l).length ≤ s.length + l.length
  | [], s => by simp [addL]
  | a :: l, s => by
    have h := addL_le l (addS a s)
    have : (addS a s).length ≤ s.length + 1 := by unfold addS; split <;> simp
    simp only [addL, List.length_cons]
    omega
theorem addL_dst : ∀ (l s : List ByteArray), decide ((addL s l).length = s.length + l.length) = dstK s l
  | [], s => by simp [addL, dstK]
  | a :: l, s => by
    simp only [addL, dstK, List.length_cons]
    by_cases h : a ∈ s
    · have hi : inS s a = true := (inS_iff s a).2 h
      have hs : addS a s = s := by unfold addS; rw [if_pos h]
      have := addL_le l s
      have hne : ¬ ((addL s l).length = s.length + (l.length + 1)) := by omega
      simp only [hs, hi, hne, decide_false, Bool.not_true, Bool.false_and]
    · have hi : inS s a = false := by
        rw [← Bool.not_eq_true, inS_iff]
        exact h
      have hs : addS a s = s ++ [a] := by unfold addS; rw [if_neg h]
      have ih := addL_dst l (s ++ [a])
      simp only [hs, hi, ← ih, List.length_append, List.length_singleton, Bool.not_false, Bool.true_and]
      congr 1
      rw [eq_iff_iff]
      constructor <;> intro h <;> omega
theorem putK_keys {β : Type} (n : ByteArray) (v : β) : ∀ d : List (ByteArray × β), (putK n v d).map (·.1) = addS n (d.map (·.1))
  | [] => rfl
  | p :: d => by
    have h := putK_keys n v d
    simp only [putK]
    by_cases hp : p.1 = n
    · rw [if_pos hp]
      unfold addS
      rw [if_pos (by rw [List.map_cons, hp]; exact List.mem_cons_self ..)]
      simp [hp]
    · rw [if_neg hp, List.map_cons, h]
      unfold addS
      rw [List.map_cons]
      by_cases hm : n ∈ d.map (·.1)
      · rw [if_pos hm, if_pos (List.mem_cons_of_mem _ hm)]
      · rw [if_neg hm, if_neg (by rw [List.mem_cons]; rintro (h | h); exact hp h.symm; exact hm h)]
        rfl
theorem arD_keys : ∀ (l : List S124) (d : List (ByteArray × Int)), (arD d l).map (·.1) = addL (d.map (·.1)) (l.map (·.f0))
  | [], d => rfl
  | o :: l, d => by rw [arD, arD_keys l, putK_keys]; rfl
theorem coD_keys : ∀ (l : List S92) (d : List (ByteArray × S25)), (coD d l).map (·.1) = addL (d.map (·.1)) (l.map (·.f0))
  | [], d => rfl
  | o :: l, d => by rw [coD, coD_keys l, putK_keys]; rfl
theorem arD_dst (l : List S124) : decide ((arD [] l).length = l.length) = dstK [] (l.map (·.f0)) := by
  rw [← addL_dst]
  have h := congrArg List.length (arD_keys l [])
  rw [List.length_map] at h
  rw [h]
  simp
theorem coD_dst (l : List S92) : decide ((coD [] l).length = l.length) = dstK [] (l.map (·.f0)) := by
  rw [← addL_dst]
  have h := congrArg List.length (coD_keys l [])
  rw [List.length_map] at h
  rw [h]
  simp
theorem look_keys {β : Type} (n : ByteArray) : ∀ d : List (ByteArray × β), (lookK n d).isSome = inS (d.map (·.1)) n
  | [] => rfl
  | p :: d => by
    rw [lookK, List.map_cons]
    by_cases hp : p.1 = n
    · rw [if_pos hp, (inS_iff _ _).2 (by rw [hp]; exact List.mem_cons_self ..)]
      rfl
    · rw [if_neg hp, look_keys n d, Bool.eq_iff_iff, inS_iff, inS_iff, List.mem_cons]
      constructor
      · exact .inr
      · rintro (h | h)
        · exact absurd h.symm hp
        · exact h
theorem mem_addL : ∀ (l s : List ByteArray) (n : ByteArray), n ∈ addL s l ↔ n ∈ s ∨ n ∈ l
  | [], s, n => by simp [addL]
  | a :: l, s, n => by
    rw [addL, mem_addL l]
    have : n ∈ addS a s ↔ n ∈ s ∨ n = a := by
      unfold addS
      split
      · next h => exact ⟨.inl, fun h2 => h2.elim id (fun e => e ▸ h)⟩
      · simp
    rw [this, List.mem_cons]
    constructor
    · rintro ((h | h) | h) <;> simp [h]
    · rintro (h | h | h) <;> simp [h]
theorem co_found (l1 : List S92) (n : ByteArray) : (lookK n (coD [] l1)).isSome = inS (l1.map (·.f0)) n := by
  rw [look_keys, coD_keys, Bool.eq_iff_iff, inS_iff, inS_iff, mem_addL]
  simp
theorem ar_found (l0 : List S124) (n : ByteArray) : (lookK n (arD [] l0)).isSome = inS (l0.map (·.f0)) n := by
  rw [look_keys, arD_keys, Bool.eq_iff_iff, inS_iff, inS_iff, mem_addL]
  simp
theorem lkO_found (n : ByteArray) : ∀ l0 : List S124, (lkO n l0).isSome = inS (l0.map (·.f0)) n
  | [] => rfl
  | o :: l => by
    rw [lkO, List.map_cons]
    by_cases hp : o.f0 = n
    · rw [if_pos hp, (inS_iff _ _).2 (by rw [hp]; exact List.mem_cons_self ..)]
      rfl
    · rw [if_neg hp, lkO_found n l, Bool.eq_iff_iff, inS_iff, inS_iff, List.mem_cons]
      constructor
      · exact .inr
      · rintro (h | h)
        · exact absurd h.symm hp
        · exact h
theorem ar_look (n : ByteArray) : ∀ (l : List S124) (d : List (ByteArray × Int)), dstK (d.map (·.1)) (l.map (·.f0)) = true → lookK n (arD d l) = (lookK n d).or (lkO n l)
  | [], d, _ => by simp [arD, lkO]
  | o :: l, d, h => by
    simp only [List.map_cons, dstK, Bool.and_eq_true, Bool.not_eq_true'] at h
    have hs : (putK o.f0 o.f1 d).map (·.1) = d.map (·.1) ++ [o.f0] := by
      rw [putK_keys]
      unfold addS
      rw [if_neg]
      intro hm
      rw [← inS_iff, h.1] at hm
      cases hm
    rw [arD, ar_look n l _ (by rw [hs]; exact h.2), lookK_put, lkO]
    by_cases hn : n = o.f0
    · subst hn
      have hnone : lookK o.f0 d = none := by
        have := look_keys o.f0 d
        rw [h.1] at this
        cases hq : lookK o.f0 d with
        | none => rfl
        | some v => rw [hq] at this; cases this
      rw [if_pos rfl, if_pos rfl, hnone]
      rfl
    · rw [if_neg hn, if_neg (fun e => hn e.symm)]
/-! ### Check -/
def rTy : List S124 → List S124 → Bool
  | _, [] => true
  | P, o :: l => (!oddTy o && P.all (fun p => !(p.f0.toList == o.f0.toList))) && rTy (P ++ [o]) l
def rCo (lk : ByteArray → Option Int) : List S92 → List S92 → Bool
  | _, [] => true
  | P, o :: l => ((nmC o.f0 && (chkB o.f1 && ovG lk o.f1)) && P.all (fun p => !(p.f0.toList == o.f0.toList))) && rCo lk (P ++ [o]) l
theorem all_in (s : List ByteArray) (n : ByteArray) : s.all (fun p => !(p.toList == n.toList)) = !inS s n := by
  unfold inS
  induction s with
  | nil => rfl
  | cons a s ih => rw [List.all_cons, List.any_cons, ih, Bool.not_or, show (a.toList == n.toList) = (n.toList == a.toList) from BEq.comm]
theorem rTy_eq : ∀ (l P : List S124), rTy P l = (dstK (P.map (·.f0)) (l.map (·.f0)) && !l.any oddTy)
  | [], P => by simp [rTy, dstK]
  | o :: l, P => by
    have h := all_in (P.map (·.f0)) o.f0
    rw [List.all_map] at h
    have h2 : P.all (fun p => !(p.f0.toList == o.f0.toList)) = !inS (P.map (·.f0)) o.f0 := h
    rw [rTy, rTy_eq l, h2, List.map_cons, dstK, List.any_cons, List.map_append]
    simp only [List.map_cons, List.map_nil]
    generalize oddTy o = a
    generalize inS (P.map (·.f0)) o.f0 = b
    generalize dstK (P.map (·.f0) ++ [o.f0]) (l.map (·.f0)) = c
    generalize l.any oddTy = e
    revert a b c e
    decide
theorem rCo_eq (lk : ByteArray → Option Int) : ∀ (l P : List S92), rCo lk P l = (dstK (P.map (·.f0)) (l.map (·.f0)) && !l.any (fun x => !(nmC x.f0 && (chkB x.f1 && ovG lk x.f1))))
  | [], P => by simp [rCo, dstK]
  | o :: l, P => by
    have h := all_in (P.map (·.f0)) o.f0
    rw [List.all_map] at h
    have h2 : P.all (fun p => !(p.f0.toList == o.f0.toList)) = !inS (P.map (·.f0)) o.f0 := h
    rw [rCo, rCo_eq lk l, h2, List.map_cons, dstK, List.any_cons, List.map_append]
    simp only [List.map_cons, List.map_nil]
    generalize (nmC o.f0 && (chkB o.f1 && ovG lk o.f1)) = a
    generalize inS (P.map (·.f0)) o.f0 = b
    generalize dstK (P.map (·.f0) ++ [o.f0]) (l.map (·.f0)) = c
    generalize (l.any fun x => !(nmC x.f0 && (chkB x.f1 && ovG lk x.f1))) = e
    revert a b c e
    decide
theorem sigOk_eq (l0 : List S124) (l1 : List S92) : sigOk l0 l1 = (rTy [] l0 && rCo (fun n => lkO n l0) [] l1) := by
  rw [rTy_eq, rCo_eq, sigOk, arD_dst, coD_dst]
  simp only [List.map_nil]
  cases hd : dstK [] (l0.map (·.f0)) with
  | false => simp
  | true =>
    have hov : ∀ x : S92, oddCo (arD [] l0) x = !(nmC x.f0 && (chkB x.f1 && ovG (fun n => lkO n l0) x.f1)) := fun x => by
      unfold oddCo
      rw [ovG_over, show (fun n => lookK n (arD [] l0)) = (fun n => lkO n l0) from funext fun n => by rw [ar_look n l0 [] hd]; rfl]
      cases nmC x.f0 <;> cases chkB x.f1 <;> simp
    rw [show oddCo (arD [] l0) = (fun x => !(nmC x.f0 && (chkB x.f1 && ovG (fun n => lkO n l0) x.f1))) from funext hov]
    generalize dstK [] (l1.map (·.f0)) = a
    generalize l0.any oddTy = b
    generalize (l1.any fun x => !(nmC x.f0 && (chkB x.f1 && ovG (fun n => lkO n l0) x.f1))) = c
    revert a b c
    decide
end Go.Proofs.Ytgnklkmifcmlhaa.Q
/- Proved here: the reference's functions on signatures (Great, Check, Twin, AddType, AddConst, Same) answer as the program's. Conditions: those that each theorem names. -/
namespace Go.Proofs.Ytgnklkmifcmlhaa.Q
open Go.RowKit Go.Shelf Go.Proofs.YtgnklkmifcmlhaaW.PrintWords Go.Proofs.YtgnklkmifcmlhaaW.PrintMore
set_option linter.unusedVariables false
set_option linter.unusedSimpArgs false

/-! ### Great -/
def bigC (c : S92) : Bool := greatB c.f1 || decide (c.f0.size > 1000)
def bigO (o : S124) : Bool := decide (o.f0.size > 1000)
def greatG (l0 : List S124) (l1 : List S92) : Bool :=
  decide (600 < l0.length) || (decide (600 < l1.length) || ((decide (100 < l1.length) && decide (l1.length ≤ 512)) || (l1.any bigC || l0.any bigO)))
theorem greatg_ev (l0 : List S124) (l1 : List S92) (h1 : ∀ x, x ∈ l1 → wd x.f1) : Ev (fun k => sequentref04_Great.f k l0 l1) (greatG l0 l1) := by
  have hl1 : l0.length ≤ 600 → Ev (fun k => sequentref04_Great.l1 k 0 l0 l1) (l0.any bigO) := fun hz => by
    refine Ev.val (down (fun j => Ev (fun k => sequentref04_Great.l1 k (j : Int) l0 l1) ((l0.drop j).any bigO)) l0.length ?_ ?_) (by simp)
    · refine Ev.succ ?_
      simp only [sequentref04_Great.l1]
      exact Ev.neg (by omega) ((Ev.pure _).val (by simp))
    · intro j hj ih
      refine Ev.succ ?_
      simp only [sequentref04_Great.l1]
      refine Ev.pos (by omega) (Ev.pos (by omega) ?_)
      rw [rdTO l0 j hj, List.drop_eq_getElem_cons hj, List.any_cons, bigO]
      refine Ev.ite (fun e => (Ev.pure _).val ?_) (fun e => ?_)
      · rw [decide_eq_true (show l0[j].f0.size > 1000 by omega)]
        rfl
      · rw [decide_eq_false (show ¬ l0[j].f0.size > 1000 by omega), Bool.false_or, w64s (by omega)]
        exact ih
  have hl0 : l0.length ≤ 600 → l1.length ≤ 600 → Ev (fun k => sequentref04_Great.l0 k 0 l0 l1) (l1.any bigC || l0.any bigO) := fun hz hz1 => by
    refine Ev.val (down (fun j => Ev (fun k => sequentref04_Great.l0 k (j : Int) l0 l1) ((l1.drop j).any bigC || l0.any bigO)) l1.length ?_ ?_) (by simp)
    · refine Ev.succ ?_
      simp only [sequentref04_Great.l0]
      exact Ev.neg (by omega) ((hl1 hz).val (by simp))
    · intro j hj ih
      refine Ev.succ ?_
      simp only [sequentref04_Great.l0]
      refine Ev.pos (by omega) (Ev.pos (by omega) ?_)
      rw [rdCO l1 j hj, List.drop_eq_getElem_cons hj, List.any_cons]
      refine Ev.bind (great_ev _ (h1 _ (List.getElem_mem hj))) (Ev.ite (fun e => (Ev.pure _).val (by simp [bigC, e])) (fun e => Ev.ite (fun e2 => (Ev.pure _).val ?_) (fun e2 => ?_)))
      · rw [bigC, decide_eq_true (show l1[j].f0.size > 1000 by omega)]
        simp
      · rw [bigC, decide_eq_false (show ¬ l1[j].f0.size > 1000 by omega), Bool.not_eq_true _ |>.mp e, Bool.false_or, Bool.false_or, w64s (by omega)]
        exact ih
  have hj : l0.length ≤ 600 → l1.length ≤ 600 → ∀ b : Bool, Ev (fun k => sequentref04_Great.j0 k b l0 l1) (b || (l1.any bigC || l0.any bigO)) := fun hz hz1 b => by
    refine Ev.succ ?_
    simp only [sequentref04_Great.j0]
    cases b with
    | true => exact Ev.pos rfl ((Ev.pure _).val rfl)
    | false => exact Ev.neg (by simp) ((hl0 hz hz1).val (by simp))
  have ht : Ev (fun k => sequentref04_Great.j0 k true l0 l1) true := by
    refine Ev.succ ?_
    simp only [sequentref04_Great.j0]
    exact Ev.pos trivial (Ev.pure _)
  simp only [sequentref04_Great.f]
  unfold greatG
  refine Ev.ite (fun e => ht.val ?_) (fun e => Ev.ite (fun e1 => ht.val ?_) (fun e1 => Ev.ite (fun e2 => ((hj (by omega) (by omega) _).val ?_)) (fun e2 => ((hj (by omega) (by omega) _).val ?_))))
  · rw [decide_eq_true (show 600 < l0.length by omega)]; rfl
  · rw [decide_eq_true (show 600 < l1.length by omega)]; simp
  · rw [decide_eq_false (show ¬ 600 < l0.length by omega), decide_eq_false (show ¬ 600 < l1.length by omega), decide_eq_true (show 100 < l1.length by omega)]
    simp only [Bool.false_or, Bool.true_and]
    congr 1
    rw [Bool.eq_iff_iff, decide_eq_true_eq, decide_eq_true_eq]
    omega
  · rw [decide_eq_false (show ¬ 600 < l0.length by omega), decide_eq_false (show ¬ 600 < l1.length by omega), decide_eq_false (show ¬ 100 < l1.length by omega)]
    simp
/-! ### Check -/
theorem refop_ev (n : ByteArray) (h : okS n) : Ev (fun k => sequentref04_Operator.f k n) (nmC n) := by
  simp only [sequentref04_Operator.f]
  refine Ev.bind (refname_ev n h) (Ev.ite (fun e => Ev.pos ?_ ((Ev.pure _).val ?_)) (fun e => (Ev.pure _).val ?_))
  · have e' := e
    simp only [nameB, Bool.and_eq_true, decide_eq_true_eq] at e'
    omega
  · simp [nmC, e, bne]
  · simp [nmC, e]
section
variable (l0 : List S124) (l1 : List S92) (z0 : l0.length ≤ 100000) (z1 : l1.length ≤ 100000)
include z0 in
theorem ckl1_ev (i : Nat) (hi : i < l0.length) (R : Int) (hR : Ev (fun k => sequentref04_Check.l0 k ((i + 1 : Nat) : Int) l0 l1) R) :
    Ev (fun k => sequentref04_Check.l1 k (i : Int) 0 l0 l1) (if (l0.take i).all (fun p => !(p.f0.toList == l0[i].f0.toList)) = true then R else 8) := by
  refine Ev.val (down (fun j => Ev (fun k => sequentref04_Check.l1 k (i : Int) (j : Int) l0 l1) (if ((l0.take i).drop j).all (fun p => !(p.f0.toList == l0[i].f0.toList)) = true then R else 8)) i ?_ ?_) (by simp)
  · refine Ev.succ ?_
    simp only [sequentref04_Check.l1]
    refine Ev.neg (by omega) ?_
    rw [w64s (by omega), List.drop_of_length_le (by rw [List.length_take]; omega), if_pos (by rfl)]
    exact hR
  · intro j hj ih
    have hjl : j < (l0.take i).length := by rw [List.length_take]; omega
    refine Ev.succ ?_
    simp only [sequentref04_Check.l1]
    refine Ev.pos (by omega) (Ev.pos (by omega) (Ev.pos (by omega) (Ev.pos (by omega) (Ev.pos (by omega) ?_))))
    rw [rdTO l0 j (by omega), rdTO l0 i hi, List.drop_eq_getElem_cons hjl, List.all_cons, List.getElem_take]
    refine Ev.ite (fun e => (Ev.pure _).val ?_) (fun e => ?_)
    · rw [if_neg (by simp [e])]
    · rw [w64s (by omega), show (!(l0[j].f0.toList == l0[i].f0.toList)) = true by simp [e], Bool.true_and]
      exact ih
include z1 in
theorem ckl3_ev (i : Nat) (hi : i < l1.length) (R : Int) (hR : Ev (fun k => sequentref04_Check.l2 k ((i + 1 : Nat) : Int) l0 l1) R) :
    Ev (fun k => sequentref04_Check.l3 k (i : Int) 0 l0 l1) (if (l1.take i).all (fun p => !(p.f0.toList == l1[i].f0.toList)) = true then R else 8) := by
  refine Ev.val (down (fun j => Ev (fun k => sequentref04_Check.l3 k (i : Int) (j : Int) l0 l1) (if ((l1.take i).drop j).all (fun p => !(p.f0.toList == l1[i].f0.toList)) = true then R else 8)) i ?_ ?_) (by simp)
  · refine Ev.succ ?_
    simp only [sequentref04_Check.l3]
    refine Ev.neg (by omega) ?_
    rw [w64s (by omega), List.drop_of_length_le (by rw [List.length_take]; omega), if_pos (by rfl)]
    exact hR
  · intro j hj ih
    have hjl : j < (l1.take i).length := by rw [List.length_take]; omega
    refine Ev.succ ?_
    simp only [sequentref04_Check.l3]
    refine Ev.pos (by omega) (Ev.pos (by omega) (Ev.pos (by omega) (Ev.pos (by omega) (Ev.pos (by omega) ?_))))
    rw [rdCO l1 j (by omega), rdCO l1 i hi, List.drop_eq_getElem_cons hjl, List.all_cons, List.getElem_take]
    refine Ev.ite (fun e => (Ev.pure _).val ?_) (fun e => ?_)
    · rw [if_neg (by simp [e])]
    · rw [w64s (by omega), show (!(l1[j].f0.toList == l1[i].f0.toList)) = true by simp [e], Bool.true_and]
      exact ih
theorem if_and8 (a b : Bool) (R : Int) : (if (a && b) = true then R else 8) = if a = true then (if b = true then R else 8) else 8 := by
  cases a <;> cases b <;> rfl
include z0 z1 in
theorem ckl2_ev (h1 : ∀ x, x ∈ l1 → okS x.f0 ∧ fit x.f1) : Ev (fun k => sequentref04_Check.l2 k 0 l0 l1) (if rCo (fun n => lkO n l0) [] l1 = true then 0 else 8) := by
  refine Ev.val (down (fun i => Ev (fun k => sequentref04_Check.l2 k (i : Int) l0 l1) (if rCo (fun n => lkO n l0) (l1.take i) (l1.drop i) = true then 0 else 8)) l1.length ?_ ?_) (by simp)
  · refine Ev.succ ?_
    simp only [sequentref04_Check.l2]
    exact Ev.neg (by omega) ((Ev.pure _).val (by simp [rCo]))
  · intro i hi ih
    have hx := h1 _ (List.getElem_mem hi)
    have hj : ∀ b : Bool, Ev (fun k => sequentref04_Check.j5 k (i : Int) b l0 l1) (if b = true then 8 else (if (l1.take i).all (fun p => !(p.f0.toList == l1[i].f0.toList)) = true then (if rCo (fun n => lkO n l0) (l1.take (i + 1)) (l1.drop (i + 1)) = true then 0 else 8) else 8)) := fun b => by
      refine Ev.succ ?_
      simp only [sequentref04_Check.j5]
      cases b with
      | true => exact Ev.pos rfl (Ev.pure _)
      | false => exact Ev.neg (by simp) ((ckl3_ev l0 l1 z1 i hi _ ih).val (by simp))
    refine Ev.succ ?_
    simp only [sequentref04_Check.l2]
    refine Ev.pos (by omega) (Ev.pos (by omega) ?_)
    rw [rdCO l1 i hi, List.drop_eq_getElem_cons hi, rCo, ← List.take_succ_eq_append_getElem hi, if_and8, if_and8]
    refine Ev.bind (rname_ev _ hx.1) (Ev.ite (fun e => ?_) (fun e => (hj true).val (by rw [if_pos rfl, Bool.not_eq_true _ |>.mp e]; rfl)))
    refine Ev.bind (valid_ev _ hx.2) (Ev.ite (fun e1 => ?_) (fun e1 => (hj true).val (by rw [if_pos rfl, e, Bool.not_eq_true _ |>.mp e1]; rfl)))
    refine Ev.bind (overg_ev l0 l1 (by omega) _ _ (Nat.le_refl _) hx.2.1) ((hj _).val ?_)
    rw [e, e1, Bool.true_and, Bool.true_and]
    cases ovG (fun n => lkO n l0) l1[i].f1 <;> rfl
include z0 z1 in
theorem ckl0_ev (h0 : ∀ x, x ∈ l0 → okS x.f0) (h1 : ∀ x, x ∈ l1 → okS x.f0 ∧ fit x.f1) : Ev (fun k => sequentref04_Check.l0 k 0 l0 l1) (if sigOk l0 l1 = true then 0 else 8) := by
  refine Ev.val (down (fun i => Ev (fun k => sequentref04_Check.l0 k (i : Int) l0 l1) (if rTy (l0.take i) (l0.drop i) = true then (if rCo (fun n => lkO n l0) [] l1 = true then 0 else 8) else 8)) l0.length ?_ ?_) (by rw [sigOk_eq, if_and8]; simp)
  · refine Ev.succ ?_
    simp only [sequentref04_Check.l0]
    exact Ev.neg (by omega) ((ckl2_ev l0 l1 z0 z1 h1).val (by simp [rTy]))
  · intro i hi ih
    have hx := h0 _ (List.getElem_mem hi)
    have hj : ∀ b : Bool, Ev (fun k => sequentref04_Check.j2 k (i : Int) b l0 l1) (if b = true then 8 else (if (l0.take i).all (fun p => !(p.f0.toList == l0[i].f0.toList)) = true then (if rTy (l0.take (i + 1)) (l0.drop (i + 1)) = true then (if rCo (fun n => lkO n l0) [] l1 = true then 0 else 8) else 8) else 8)) := fun b => by
      refine Ev.succ ?_
      simp only [sequentref04_Check.j2]
      cases b with
      | true => exact Ev.pos rfl (Ev.pure _)
      | false => exact Ev.neg (by simp) ((ckl1_ev l0 l1 z0 i hi _ ih).val (by simp))
    refine Ev.succ ?_
    simp only [sequentref04_Check.l0]
    refine Ev.pos (by omega) (Ev.pos (by omega) ?_)
    rw [rdTO l0 i hi, List.drop_eq_getElem_cons hi, rTy, ← List.take_succ_eq_append_getElem hi, if_and8, if_and8, oddTy]
    refine Ev.bind (refop_ev _ hx) (Ev.ite (fun e => Ev.ite (fun e1 => (hj true).val ?_) (fun e1 => (hj _).val ?_)) (fun e => (hj true).val (by rw [if_pos rfl, Bool.not_eq_true _ |>.mp e]; rfl)))
    · rw [if_pos rfl, decide_eq_true e1, e]
      rfl
    · rw [decide_eq_false e1, e]
      by_cases h8 : 8 < l0[i].f1
      · rw [decide_eq_true h8]
        rfl
      · rw [decide_eq_false h8]
        rfl
include z0 z1 in
theorem refchk_ev (h0 : ∀ x, x ∈ l0 → okS x.f0) (h1 : ∀ x, x ∈ l1 → okS x.f0 ∧ fit x.f1) : Ev (fun k => sequentref04_Check.f k l0 l1) (sigE l0 l1) := by
  have hj : ∀ b : Bool, Ev (fun k => sequentref04_Check.j0 k b l0 l1) (if b = true then 4 else if sigOk l0 l1 = true then 0 else 8) := fun b => by
    refine Ev.succ ?_
    simp only [sequentref04_Check.j0]
    cases b with
    | true => exact Ev.pos rfl (Ev.pure _)
    | false => exact Ev.neg (by simp) ((ckl0_ev l0 l1 z0 z1 h0 h1).val (by simp))
  simp only [sequentref04_Check.f]
  unfold sigE
  refine Ev.ite (fun e => (hj true).val ?_) (fun e => (hj _).val ?_)
  · rw [if_pos rfl, if_pos (.inl (by omega))]
  · by_cases h5 : 512 < l1.length
    · rw [decide_eq_true (show (l1.length : Int) > 512 by omega), if_pos rfl, if_pos (.inr h5)]
    · rw [decide_eq_false (show ¬ (l1.length : Int) > 512 by omega), if_neg (show ¬ (false = true) by simp), if_neg (show ¬ (512 < l0.length ∨ 512 < l1.length) by omega)]
/-! ### Twin -/
theorem etaT (t : S25) : (⟨t.f0, t.f1, t.f2⟩ : S25) = t := by cases t; rfl
include z0 z1 in
theorem twing_ev (hz : ∀ x, x ∈ l1 → szT x.f1 < 2932031007402) : Ev (fun k => sequentref04_Twin.f k l0 l1) (l0, l1) := by
  simp only [sequentref04_Twin.f]
  refine Ev.pos (by simp; omega) ?_
  simp only [List.nil_append]
  refine down (fun j => Ev (fun k => sequentref04_Twin.l0 k (j : Int) l0 l1 l0 (l1.take j)) (l0, l1)) l1.length ?_ ?_
  · refine Ev.succ ?_
    simp only [sequentref04_Twin.l0]
    exact Ev.neg (by omega) ((Ev.pure _).val (by simp))
  · intro j hj ih
    refine Ev.succ ?_
    simp only [sequentref04_Twin.l0]
    refine Ev.pos (by omega) (Ev.pos (by omega) ?_)
    rw [rdCO l1 j hj]
    refine Ev.bind (reftwin_ev _ (hz _ (List.getElem_mem hj))) (Ev.pos (by rw [List.length_take]; omega) ?_)
    rw [w64s (by omega)]
    refine ih.cong (fun k => ?_)
    rw [List.take_succ_eq_append_getElem hj]
    show sequentref04_Twin.l0 k ((j + 1 : Nat) : Int) l0 l1 l0 (l1.take j ++ [⟨l1[j].f0, ⟨l1[j].f1.f0, l1[j].f1.f1, l1[j].f1.f2⟩⟩]) = _
    rw [etaT]
/-! ### AddType -/
include z0 z1 in
theorem refadt_ev (name : ByteArray) (ar : Int) (h0 : ∀ x, x ∈ l0 → okS x.f0) (h1 : ∀ x, x ∈ l1 → okS x.f0 ∧ fit x.f1) (hz : ∀ x, x ∈ l1 → szT x.f1 < 2932031007402) (hn : okS name) :
    Ev (fun k => sequentref04_AddType.f k l0 l1 name ar) ((if adtE l0 l1 name ar = 0 then l0 ++ [⟨name, ar⟩] else []), (if adtE l0 l1 name ar = 0 then l1 else []), adtE l0 l1 name ar) := by
  have hj : sigE l0 l1 = 0 → ∀ b : Bool, Ev (fun k => sequentref04_AddType.j0 k name ar b l0 l1) (if b = true then ([], [], 2) else if (lkO name l0).isSome = true then ([], [], 41) else if l0.length = 512 then ([], [], 4) else (l0 ++ [⟨name, ar⟩], l1, 0)) := fun hE b => by
    have h512 : l0.length ≤ 512 := by
      unfold sigE at hE
      by_cases h : 512 < l0.length ∨ 512 < l1.length
      · rw [if_pos h] at hE; cases hE
      · omega
    refine Ev.succ ?_
    simp only [sequentref04_AddType.j0]
    cases b with
    | true => exact Ev.pos rfl (Ev.pure _)
    | false =>
      refine Ev.neg (by simp) ?_
      rw [if_neg (by simp)]
      have ht := typeop_ev l0 l1 name (by omega)
      cases hlk : lkO name l0 with
      | some a =>
        rw [hlk] at ht
        exact Ev.bind ht (Ev.pos rfl (Ev.pure _))
      | none =>
        rw [hlk] at ht
        refine Ev.bind ht (Ev.neg (by simp [toR]) ?_)
        rw [if_neg (by simp)]
        refine Ev.ite (fun e => (Ev.pure _).val (by rw [if_pos (by omega)])) (fun e => ?_)
        rw [if_neg (by omega)]
        refine Ev.bind (a := (l0 ++ [⟨name, ar⟩], l1)) ?_ (Ev.pure _)
        simp only [sequentref04_WithType.f]
        exact Ev.bind (twing_ev l0 l1 z0 z1 hz) (Ev.pos (by show l0.length < _; omega) (Ev.pure _))
  have hf : (lookK name (arD [] l0)).isSome = (lkO name l0).isSome := by rw [ar_found, lkO_found]
  simp only [sequentref04_AddType.f]
  unfold adtE
  rw [hf]
  refine Ev.bind (refchk_ev l0 l1 z0 z1 h0 h1) (Ev.ite (fun e => ?_) (fun e => (Ev.pure _).val ?_))
  · have hj' := hj e
    rw [e]
    simp only [ne_eq, not_true_eq_false, if_false]
    have fin : ∀ b : Bool, b = false → (nmC name = true ∧ ¬ ar < 0 ∧ ¬ 8 < ar) → Ev (fun k => sequentref04_AddType.j0 k name ar b l0 l1) ((if (if nmC name = false ∨ ar < 0 ∨ 8 < ar then (2 : Int) else if (lkO name l0).isSome = true then 41 else if l0.length = 512 then 4 else 0) = 0 then l0 ++ [⟨name, ar⟩] else []), (if (if nmC name = false ∨ ar < 0 ∨ 8 < ar then (2 : Int) else if (lkO name l0).isSome = true then 41 else if l0.length = 512 then 4 else 0) = 0 then l1 else []), (if nmC name = false ∨ ar < 0 ∨ 8 < ar then (2 : Int) else if (lkO name l0).isSome = true then 41 else if l0.length = 512 then 4 else 0)) := fun b hb hc => by
      subst hb
      refine (hj' false).val ?_
      rw [if_neg (by simp), if_neg (show ¬ (nmC name = false ∨ ar < 0 ∨ 8 < ar) by simp [hc.1, hc.2.1, hc.2.2])]
      by_cases h1 : (lkO name l0).isSome = true
      · simp [h1]
      · by_cases h2 : l0.length = 512
        · simp [h1, h2]
        · simp [h1, h2]
    have bad : (nmC name = false ∨ ar < 0 ∨ 8 < ar) → Ev (fun k => sequentref04_AddType.j0 k name ar true l0 l1) ((if (if nmC name = false ∨ ar < 0 ∨ 8 < ar then (2 : Int) else if (lkO name l0).isSome = true then 41 else if l0.length = 512 then 4 else 0) = 0 then l0 ++ [⟨name, ar⟩] else []), (if (if nmC name = false ∨ ar < 0 ∨ 8 < ar then (2 : Int) else if (lkO name l0).isSome = true then 41 else if l0.length = 512 then 4 else 0) = 0 then l1 else []), (if nmC name = false ∨ ar < 0 ∨ 8 < ar then (2 : Int) else if (lkO name l0).isSome = true then 41 else if l0.length = 512 then 4 else 0)) := fun hc => by
      refine (hj' true).val ?_
      rw [if_pos rfl, if_pos hc, if_neg (by decide), if_neg (by decide)]
    refine Ev.bind (refop_ev _ hn) (Ev.ite (fun e1 => Ev.ite (fun e2 => bad (.inr (.inl e2))) (fun e2 => ?_)) (fun e1 => bad (.inl (Bool.not_eq_true _ |>.mp e1))))
    by_cases h8 : 8 < ar
    · rw [decide_eq_true (show ar > 8 from h8)]
      exact bad (.inr (.inr h8))
    · rw [decide_eq_false (show ¬ ar > 8 from h8)]
      exact fin false rfl ⟨e1, e2, h8⟩
  · simp only [ne_eq, e, not_false_eq_true, if_true, if_false]
/-! ### AddConst -/
def lkC (n : ByteArray) : List S92 → Option S25
  | [] => none
  | o :: l => if o.f0 = n then some o.f1 else lkC n l
def toC (r : Option S25) : Bool × ByteArray × List S25 × Bool := match r with | some t => (t.f0, t.f1, t.f2, true) | none => (false, ⟨#[]⟩, [], false)
theorem lkC_found (n : ByteArray) : ∀ l1 : List S92, (lkC n l1).isSome = inS (l1.map (·.f0)) n
  | [] => rfl
  | o :: l => by
    rw [lkC, List.map_cons]
    by_cases hp : o.f0 = n
    · rw [if_pos hp, (inS_iff _ _).2 (by rw [hp]; exact List.mem_cons_self ..)]
      rfl
    · rw [if_neg hp, lkC_found n l, Bool.eq_iff_iff, inS_iff, inS_iff, List.mem_cons]
      constructor
      · exact .inr
      · rintro (h | h)
        · exact absurd h.symm hp
        · exact h
include z1 in
theorem constg_ev (n : ByteArray) (hz : ∀ x, x ∈ l1 → szT x.f1 < 2932031007402) : Ev (fun k => sequentref04_Const.f k l0 l1 n) (toC (lkC n l1)) := by
  simp only [sequentref04_Const.f]
  refine Ev.val (down (fun j => Ev (fun k => sequentref04_Const.l0 k n (j : Int) l0 l1) (toC (lkC n (l1.drop j)))) l1.length ?_ ?_) (by simp)
  · refine Ev.succ ?_
    simp only [sequentref04_Const.l0]
    exact Ev.neg (by omega) ((Ev.pure _).val (by simp [lkC, toC]))
  · intro j hj ih
    refine Ev.succ ?_
    simp only [sequentref04_Const.l0]
    refine Ev.pos (by omega) (Ev.pos (by omega) ?_)
    rw [rdCO l1 j hj, List.drop_eq_getElem_cons hj, lkC]
    refine Ev.ite (fun e => ?_) (fun e => ?_)
    · rw [if_pos ((bts _ _).1 e)]
      exact Ev.bind (reftwin_ev _ (hz _ (List.getElem_mem hj))) (Ev.pure _)
    · rw [w64s (by omega), if_neg (fun h => e ((bts _ _).2 h))]
      exact ih
theorem sigE_dst (h : sigE l0 l1 = 0) : dstK [] (l0.map (·.f0)) = true ∧ l0.length ≤ 512 ∧ l1.length ≤ 512 := by
  unfold sigE at h
  by_cases h5 : 512 < l0.length ∨ 512 < l1.length
  · rw [if_pos h5] at h; cases h
  · rw [if_neg h5] at h
    refine ⟨?_, by omega, by omega⟩
    by_cases h6 : sigOk l0 l1 = true
    · rw [sigOk_eq, rTy_eq] at h6
      simp only [List.map_nil, Bool.and_eq_true] at h6
      exact h6.1.1
    · rw [if_neg h6] at h; cases h
include z0 z1 in
theorem refadc_ev (name : ByteArray) (t : S25) (h0 : ∀ x, x ∈ l0 → okS x.f0) (h1 : ∀ x, x ∈ l1 → okS x.f0 ∧ fit x.f1) (hz : ∀ x, x ∈ l1 → szT x.f1 < 2932031007402) (hn : okS name) (ht : fit t) (hzt : szT t < 2932031007402) :
    Ev (fun k => sequentref04_AddConst.f k l0 l1 name t.f0 t.f1 t.f2) ((if adcE l0 l1 name t = 0 then l0 else []), (if adcE l0 l1 name t = 0 then l1 ++ [⟨name, t⟩] else []), adcE l0 l1 name t) := by
  simp only [sequentref04_AddConst.f]
  refine Ev.bind (refchk_ev l0 l1 z0 z1 h0 h1) (Ev.ite (fun e => ?_) (fun e => (Ev.pure _).val ?_))
  · obtain ⟨hd, h50, h51⟩ := sigE_dst l0 l1 e
    have hov : overT (arD [] l0) t = ovG (fun n => lkO n l0) t := by
      rw [ovG_over, show (fun n => lookK n (arD [] l0)) = (fun n => lkO n l0) from funext fun n => by rw [ar_look n l0 [] hd]; rfl]
    have hf : (lookK name (coD [] l1)).isSome = (lkC name l1).isSome := by rw [co_found, lkC_found]
    have hE : adcE l0 l1 name t = if chkB t = false then 10 else if nmC name = false then 2 else if ovG (fun n => lkO n l0) t = false then 40 else if (lkC name l1).isSome = true then 41 else if l1.length = 512 then 4 else 0 := by
      unfold adcE
      rw [if_neg (by rw [e]; decide), hov, hf]
    rw [hE]
    refine Ev.bind (valid_ev t ht) (Ev.ite (fun c1 => ?_) (fun c1 => (Ev.pure _).val (by simp [Bool.not_eq_true _ |>.mp c1])))
    refine Ev.bind (rname_ev name hn) (Ev.ite (fun c2 => ?_) (fun c2 => (Ev.pure _).val (by simp [c1, Bool.not_eq_true _ |>.mp c2])))
    refine Ev.bind (overg_ev l0 l1 (by omega) _ t (Nat.le_refl _) ht.1) (Ev.ite (fun c3 => ?_) (fun c3 => (Ev.pure _).val (by simp [c1, c2, Bool.not_eq_true _ |>.mp c3])))
    have hc := constg_ev l0 l1 z1 name hz
    cases hlk : lkC name l1 with
    | some a =>
      rw [hlk] at hc
      exact Ev.bind hc (Ev.pos rfl ((Ev.pure _).val (by simp [c1, c2, c3])))
    | none =>
      rw [hlk] at hc
      refine Ev.bind hc (Ev.neg (by simp [toC]) ?_)
      refine Ev.ite (fun c4 => (Ev.pure _).val (by simp [c1, c2, c3, show l1.length = 512 by omega])) (fun c4 => ?_)
      refine Ev.bind (a := (l0, l1 ++ [⟨name, t⟩])) ?_ ((Ev.pure _).val (by simp [c1, c2, c3, show ¬ l1.length = 512 by omega]))
      simp only [sequentref04_WithConst.f]
      exact Ev.bind (twing_ev l0 l1 z0 z1 hz) (Ev.bind (reftwin_ev t hzt) (Ev.pos (by show l1.length < _; omega) ((Ev.pure _).val (by show (l0, l1 ++ [⟨name, ⟨t.f0, t.f1, t.f2⟩⟩]) = _; rw [etaT]))))
  · have hE : adcE l0 l1 name t = sigE l0 l1 := by
      unfold adcE
      rw [if_pos e]
    rw [hE, if_neg e, if_neg e]
/-! ### Same -/
include z0 z1 in
theorem extg_ev (hz : ∀ x, x ∈ l1 → szT x.f1 < 2932031007402) : Ev (fun k => sequentref04_Extends.f k l0 l1 l0 l1) true := by
  have hl1 : Ev (fun k => sequentref04_Extends.l1 k 0 l0 l1 l0 l1) true := by
    refine down (fun j => Ev (fun k => sequentref04_Extends.l1 k (j : Int) l0 l1 l0 l1) true) l1.length ?_ ?_
    · refine Ev.succ ?_
      simp only [sequentref04_Extends.l1]
      exact Ev.neg (by omega) (Ev.pure _)
    · intro j hj ih
      refine Ev.succ ?_
      simp only [sequentref04_Extends.l1]
      refine Ev.pos (by omega) (Ev.pos (by omega) (Ev.pos (by omega) (Ev.pos trivial ?_)))
      rw [rdCO l1 j hj, w64s (by omega)]
      exact Ev.bind (same_ev _ _ (by have := hz _ (List.getElem_mem hj); omega)) (Ev.pos (by rw [cmpT_self]; rfl) ih)
  have hl0 : Ev (fun k => sequentref04_Extends.l0 k 0 l0 l1 l0 l1) true := by
    refine down (fun j => Ev (fun k => sequentref04_Extends.l0 k (j : Int) l0 l1 l0 l1) true) l0.length ?_ ?_
    · refine Ev.succ ?_
      simp only [sequentref04_Extends.l0]
      exact Ev.neg (by omega) hl1
    · intro j hj ih
      refine Ev.succ ?_
      simp only [sequentref04_Extends.l0]
      refine Ev.pos (by omega) (Ev.pos (by omega) (Ev.pos (by omega) (Ev.neg (by simp) ?_)))
      rw [w64s (by omega)]
      exact ih
  simp only [sequentref04_Extends.f]
  refine Ev.neg (by omega) ?_
  refine Ev.succ ?_
  simp only [sequentref04_Extends.j0]
  exact Ev.neg (by simp) hl0
include z0 z1 in
theorem samesig_ev (hz : ∀ x, x ∈ l1 → szT x.f1 < 2932031007402) : Ev (fun k => sequentref04_Same.f k l0 l1 l0 l1) true := by
  simp only [sequentref04_Same.f]
  exact Ev.bind (extg_ev l0 l1 z0 z1 hz) (Ev.pos rfl (Ev.bind (extg_ev l0 l1 z0 z1 hz) (Ev.pure _)))
end
end Go.Proofs.Ytgnklkmifcmlhaa.Q
