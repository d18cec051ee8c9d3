/- Proved here: parts of the proof of a given statement (HRowPrinterTypes): contracts of the functions that it reaches, what they answer, and in the last text the statement itself. Conditions: those that each theorem names. -/
import Derived.Test.YtgnklkmifcmlhaaZPTX4
import Derived.Test.YtgnklkmifcmlhaaZPTX6
import Derived.RangeFuncNested
import Derived.RangeFuncBound
import Derived.RangeFuncCalls
import Derived.RangeFuncLeaves
import Derived.Shelf.Abstract
import Derived.Shelf.RegionOpen
import Derived.OwnWalkIn
import Derived.TacticsInMore
import Derived.LoopNIn
import Derived.LoopIn
import Derived.Laws.EntriesVeiled
import Derived.Test.YtgnklkmifcmlhaaZPTX3
import Derived.Maps.AppendAt
import Derived.Deep.AppendLies
/- Proved here: the contract of types.nodes, ranged over. Conditions: those that each theorem names. -/
namespace Go.Proofs.Ytgnklkmifcmlhaa.Q
open Go.RowKit Go.Shelf Go.Proofs.YtgnklkmifcmlhaaW.PrintWords Go.Proofs.YtgnklkmifcmlhaaW.PrintMore
set_option linter.unusedVariables false
set_option linter.unusedSimpArgs false
attribute [local go_sem] Oper.semAt_some

/-! ### nodes: each node before its arguments -/
end Go.Proofs.Ytgnklkmifcmlhaa.Q
/- Proved here: the contract of types.Vars. Conditions: those that each theorem names. -/
namespace Go.Proofs.Ytgnklkmifcmlhaa.Q
open Go.RowKit Go.Shelf Go.Proofs.YtgnklkmifcmlhaaW.PrintWords Go.Proofs.YtgnklkmifcmlhaaW.PrintMore
set_option linter.unusedVariables false
set_option linter.unusedSimpArgs false
attribute [local go_sem] Oper.semAt_some

/-! ### Vars -/
def inS (l : List ByteArray) (a : ByteArray) : Bool := l.any (fun s => a.toList == s.toList)
end Go.Proofs.Ytgnklkmifcmlhaa.Q
/- Proved here: what In answers in the end; the variables of a type as a list. Conditions: those that each theorem names. -/
namespace Go.Proofs.Ytgnklkmifcmlhaa.Q
open Go.RowKit Go.Proofs.YtgnklkmifcmlhaaW.PrintWords Go.Proofs.YtgnklkmifcmlhaaW.PrintMore
set_option linter.unusedVariables false
set_option linter.unusedSimpArgs false

/-! ### In -/
theorem inS_iff (l : List ByteArray) (a : ByteArray) : inS l a = true ↔ a ∈ l := by
  unfold inS
  rw [List.any_eq_true]
  constructor
  · rintro ⟨x, hx, he⟩
    have := (bytes_toList _ _).1 (beq_iff_eq.1 he)
    first
      | exact this ▸ hx
      | exact this.symm ▸ hx
  · intro h
    exact ⟨a, h, by simp⟩
theorem rdS (l : List ByteArray) (j : Nat) (h : j < l.length) : rdOf ByteArray.empty l (j : Int) = l[j] := by
  unfold rdOf
  simp only [Int.toNat_natCast]
  rw [List.getD_eq_getElem?_getD, List.getElem?_eq_getElem h]
  rfl
theorem in_ev (l : List ByteArray) (a : ByteArray) (hl : l.length ≤ 4611686018427387904) : Ev (fun k => sequentref01_In.f k l a) (inS l a) := by
  simp only [sequentref01_In.f]
  refine Ev.val (down (fun j => Ev (fun k => sequentref01_In.l0 k l a (j : Int)) (inS (l.drop j) a)) l.length ?_ ?_) (by simp)
  · refine Ev.succ ?_
    simp only [sequentref01_In.l0]
    refine Ev.neg (by omega) ((Ev.pure _).val ?_)
    simp [inS]
  · intro j hj h
    refine Ev.succ ?_
    simp only [sequentref01_In.l0]
    refine Ev.pos (by omega) (Ev.pos (by omega) ?_)
    rw [rdS l j hj, List.drop_eq_getElem_cons hj]
    refine Ev.ite (fun e => (Ev.pure _).val ?_) (fun e => ?_)
    · unfold inS
      rw [List.any_cons, e, beq_self_eq_true, Bool.true_or]
    · rw [w64s (by omega)]
      refine h.val ?_
      unfold inS
      rw [List.any_cons, beq_eq_false_iff_ne.2 (fun h => e h.symm), Bool.false_or]

/-! ### the variables of a type -/
end Go.Proofs.Ytgnklkmifcmlhaa.Q
/- Proved here: the contract of types.grown. Conditions: those that each theorem names. -/
namespace Go.Proofs.Ytgnklkmifcmlhaa.Q
open Go.RowKit Go.Shelf Go.Proofs.YtgnklkmifcmlhaaW.PrintWords Go.Proofs.YtgnklkmifcmlhaaW.PrintMore
set_option linter.unusedVariables false
set_option linter.unusedSimpArgs false
attribute [local go_sem] Oper.semAt_some

/-! ### grown -/
end Go.Proofs.Ytgnklkmifcmlhaa.Q
/- Proved here: the contract of types.inst. Conditions: those that each theorem names. -/
namespace Go.Proofs.Ytgnklkmifcmlhaa.Q
open Go.RowKit Go.Shelf Go.Proofs.YtgnklkmifcmlhaaW.PrintWords Go.Proofs.YtgnklkmifcmlhaaW.PrintMore
set_option linter.unusedVariables false
set_option linter.unusedSimpArgs false
attribute [local go_sem] Oper.semAt_some

/-! ### inst -/
end Go.Proofs.Ytgnklkmifcmlhaa.Q
/- Proved here: the contract of types.Inst. Conditions: those that each theorem names. -/
namespace Go.Proofs.Ytgnklkmifcmlhaa.Q
open Go.RowKit Go.Shelf Go.Proofs.YtgnklkmifcmlhaaW.PrintWords Go.Proofs.YtgnklkmifcmlhaaW.PrintMore
set_option linter.unusedVariables false
set_option linter.unusedSimpArgs false
attribute [local go_sem] Oper.semAt_some

/-! ### What Inst answers -/
end Go.Proofs.Ytgnklkmifcmlhaa.Q
/- Proved here: the contracts of chapter 1 over trees that are read. Conditions: those that each theorem names. -/
namespace Go.Proofs.Ytgnklkmifcmlhaa.Q
open Go.RowKit Go.Shelf Go.Proofs.YtgnklkmifcmlhaaW.PrintWords Go.Proofs.YtgnklkmifcmlhaaW.PrintMore
set_option linter.unusedVariables false
set_option linter.unusedSimpArgs false

/-- A value that reads as a tree. -/
def Tr (w : World) (a : Value) (t : S25) : Prop := ∃ A c, a = .agg #[.bool t.f0, .string t.f1, .slice A t.f2.length c] ∧ t.f2.length ≤ c ∧ k25.C w A t.f2.length t.f2
/-! ### Literal rows -/
end Go.Proofs.Ytgnklkmifcmlhaa.Q
/- Proved here: the contract of the reference's More. Conditions: those that each theorem names. -/
namespace Go.Proofs.Ytgnklkmifcmlhaa.Q
open Go.RowKit Go.Shelf Go.Proofs.YtgnklkmifcmlhaaW.PrintWords Go.Proofs.YtgnklkmifcmlhaaW.PrintMore
set_option linter.unusedVariables false
set_option linter.unusedSimpArgs false
attribute [local go_sem] Oper.semAt_some

end Go.Proofs.Ytgnklkmifcmlhaa.Q
-- written by a program of this session (wip/tools/myprint.py) out of the translation
namespace Go.Proofs.Ytgnklkmifcmlhaa.Q
open Go.RowKit Go.Proofs.YtgnklkmifcmlhaaW.PrintWords Go.Proofs.YtgnklkmifcmlhaaW.PrintLast Go.Proofs.YtgnklkmifcmlhaaW.PrintMore
attribute [local go_sem] max2_int min2_int max_two min_two max_three min_three max_four min_four   -- for this text's walks alone
set_option linter.unusedVariables false
set_option linter.unusedSimpArgs false

/-! ### sequentref14_distinct: function 114 -/
def sequentref14_distinct.l0 : Nat → List ByteArray → Int → Option (Bool)
  | 0, _, _ => none
  | k + 1, x0, x3 => if x3 < (x0.length : Int) then (if 0 ≤ x3 then ((sequentref02_Name.f k (rdOf ByteArray.empty x0 x3)).bind fun t750 => (if t750 = true then (if (rdOf ByteArray.empty x0 x3).toList = ([124, 45] : List UInt8) then (some false) else (if x3 ≤ (x0.length : Int) then ((sequentref01_In.f k (x0.take (x3 : Int).toNat) (rdOf ByteArray.empty x0 x3)).bind fun t754 => (if t754 = true then (some false) else (sequentref14_distinct.l0 k x0 (wrap64 (x3 + 1))))) else (none))) else (some false))) else (none)) else (some true)
def sequentref14_distinct.f (k : Nat) (l0 : List ByteArray) : Option (Bool) := sequentref14_distinct.l0 k l0 0
attribute [local go_sem] Oper.semAt_some
set_option maxHeartbeats 2000000 in
set_option maxRecDepth 100000 in
theorem sequentref14_distinct.calls (k : Nat) (A0 : Option Addr) (c0 : Nat) (l0 : List ByteArray) (r : Bool) (w : World) (hr0 : Kd.C Kd.string w A0 l0.length l0) (hc0 : l0.length ≤ c0) (h : sequentref14_distinct.f k l0 = some r) :
    Calls Try.prog 114 #[.slice A0 l0.length c0] w fun e w' => e = .returned (.bool r) ∧ Drawn0 w w' := by
  have HR0 := Aside0.mk hr0
  have HC0 := Aside0.mk hc0
  have HL := Aside0.mk hr0.2.1
  clear hr0 hc0
  have H : (sequentref14_distinct.l0 k l0 0) = some r := h
  clear h
  have H' := Aside0.mk H
  clear H
  go_enter Try.func114, Try.ntmps114
  go_wp2
  go_loopg [3] k (fun kq v3 w' => ∃ (j : Nat), v3 = .int .i64 (j : Int) ∧ j ≤ l0.length ∧ Aside0 (sequentref14_distinct.l0 kq l0 (j : Int) = some r) ∧ Aside0 (kq ≤ k) ∧ Drawn0 w w')
  case atStart => exact ⟨0, rfl, by omega, H', ⟨Nat.le_refl _⟩, Drawn0.refl _⟩
  case round =>
    clear H'
    obtain ⟨j, rfl, hj, HA, HK1, ⟨m1, rfl⟩⟩ := hrel
    cases gk with
    | zero => exact absurd HA.out (by simp [sequentref14_distinct.l0])
    | succ k1 =>
      have H := HA.out
      clear HA
      simp only [sequentref14_distinct.l0] at H
      by_cases c2 : j < l0.length
      · rw [if_pos (by omega), if_pos (by omega)] at H
        have q0 : decide (j < l0.length) = true := decide_eq_true c2
        obtain ⟨t, A4, H⟩ := Option.bind_eq_some_iff.mp H
        obtain ⟨ad, rfl, hx0⟩ := Kd.at_string HR0.out (j : Int) (by omega) (by omega)
        simp only [Int.toNat_natCast] at hx0
        have hA := fun W => sequentref02_Name.calls k1 (rdOf ByteArray.empty l0 (j : Int)) t W A4
        rw [show ((j : Int)).toNat = j from Int.toNat_natCast j] at H
        generalize rdOf ByteArray.empty l0 (j : Int) = nn at *
        cases t with
        | false =>
          have hr : r = false := by simpa using H.symm
          subst hr
          clear H A4
          go_wp2_with fail
          go_quiet (first | (go_at_call 92; (with_reducible refine (hA _).mono ?_); rintro e W1 ⟨rfl, ⟨n1, rfl⟩⟩; (try first | exact ⟨rfl, _, World.drewN_drewN _ _ _⟩ | exact ⟨rfl, _, Eq.trans (World.drewN_drewN _ _ _) (congrArg (World.drewN _) (Nat.add_assoc _ _ _))⟩)))
          all_goals go_wp2_with fail
          all_goals go_ret
          all_goals exact ⟨rfl, by repeat (first | exact Drawn0.refl _ | apply Drawn0.step)⟩
        | true =>
          simp only [if_true] at H
          by_cases c6 : nn.toList = [124, 45]
          · rw [if_pos c6] at H
            have hr : r = false := (Option.some.inj H).symm
            subst hr
            have c6b0 : (nn.toList == ([124, 45] : List UInt8)) = true := beq_iff_eq.mpr c6
            clear H A4 c6
            go_wp2_with fail
            go_quiet (first | (go_at_call 92; (with_reducible refine (hA _).mono ?_); rintro e W1 ⟨rfl, ⟨n1, rfl⟩⟩; (try first | exact ⟨rfl, _, World.drewN_drewN _ _ _⟩ | exact ⟨rfl, _, Eq.trans (World.drewN_drewN _ _ _) (congrArg (World.drewN _) (Nat.add_assoc _ _ _))⟩)))
            all_goals go_wp2_with fail
            all_goals go_ret
            all_goals exact ⟨rfl, by repeat (first | exact Drawn0.refl _ | apply Drawn0.step)⟩
          · rw [if_neg c6, if_pos (by omega)] at H
            have c6b0 : (nn.toList == ([124, 45] : List UInt8)) = false := beq_eq_false_iff_ne.mpr c6
            obtain ⟨t2, A9, H⟩ := Option.bind_eq_some_iff.mp H
            clear A4 c6
            obtain ⟨i011, hi011, _, hsz11, _⟩ := info_parts info9
            obtain ⟨hcut11, hA11, hC11⟩ := print_take_of (P := Try.prog) Value.string (⟨#[]⟩ : ByteArray) 43 9 .i64 Try.underlying43 hi011 hsz11 (some ad) c0 l0 (j : Int) (by omega) (by omega) HC0.out
            have hR : Kd.C Kd.string w (some ad) (l0.take (j : Int).toNat).length (l0.take (j : Int).toNat) := Kd.C_of_reads (h1 := fun _ => rfl) (hA11 w (Kd.reads_of_C HR0.out))
            have hB := fun n : Nat => sequentref01_In.calls k1 (some ad) c0 (l0.take (j : Int).toNat) nn t2 (w.drewN n) (Kd.C_drewN hR n) hC11 A9
            have hl : (l0.take (j : Int).toNat).length = j := by rw [List.length_take, Int.toNat_natCast]; omega
            rw [hl] at hB
            clear hR hA11 hC11
            clear A9
            cases t2 with
            | true =>
              have hr : r = false := by simpa using H.symm
              subst hr
              clear H
              go_wp2_with fail
              go_quiet (first | (go_at_call 92; (with_reducible refine (hA _).mono ?_); rintro e W1 ⟨rfl, ⟨n1, rfl⟩⟩; (try first | exact ⟨rfl, _, World.drewN_drewN _ _ _⟩ | exact ⟨rfl, _, Eq.trans (World.drewN_drewN _ _ _) (congrArg (World.drewN _) (Nat.add_assoc _ _ _))⟩)) | (go_at_call 41; (with_reducible refine (hB _).mono ?_); rintro e W2 ⟨rfl, ⟨n2, rfl⟩⟩; (try first | exact ⟨rfl, _, World.drewN_drewN _ _ _⟩ | exact ⟨rfl, _, Eq.trans (World.drewN_drewN _ _ _) (congrArg (World.drewN _) (Nat.add_assoc _ _ _))⟩)))
              all_goals go_wp2_with fail
              all_goals go_ret
              all_goals exact ⟨rfl, by repeat (first | exact Drawn0.refl _ | apply Drawn0.step)⟩
            | false =>
              have H1 : sequentref14_distinct.l0 k1 l0 (wrap64 ((j : Int) + 1)) = some r := by simpa using H
              have hlen := HL.out
              rw [w64s (by omega)] at H1
              clear H
              have H2 := Aside0.mk H1
              clear H1
              go_wp2_with fail
              go_quiet (first | (go_at_call 92; (with_reducible refine (hA _).mono ?_); rintro e W1 ⟨rfl, ⟨n1, rfl⟩⟩; (try first | exact ⟨rfl, _, World.drewN_drewN _ _ _⟩ | exact ⟨rfl, _, Eq.trans (World.drewN_drewN _ _ _) (congrArg (World.drewN _) (Nat.add_assoc _ _ _))⟩)) | (go_at_call 41; (with_reducible refine (hB _).mono ?_); rintro e W2 ⟨rfl, ⟨n2, rfl⟩⟩; (try first | exact ⟨rfl, _, World.drewN_drewN _ _ _⟩ | exact ⟨rfl, _, Eq.trans (World.drewN_drewN _ _ _) (congrArg (World.drewN _) (Nat.add_assoc _ _ _))⟩)))
              all_goals go_wp2_with fail
              all_goals go_roundg k1
              all_goals first
                | (case measure => have := HK1.out; omega)
                | (case rel => exact ⟨j + 1, by first | (simp; done) | (simp; exact w64 (by omega) (by omega)), by omega, H2, ⟨by have := HK1.out; omega⟩, by repeat (first | exact Drawn0.refl _ | apply Drawn0.step)⟩)
      · rw [if_neg (by omega)] at H
        obtain rfl := Option.some.inj H
        have q0 : decide (j < l0.length) = false := decide_eq_false c2
        go_wp2_with fail
        go_ret
        exact ⟨rfl, by repeat (first | exact Drawn0.refl _ | apply Drawn0.step)⟩
end Go.Proofs.Ytgnklkmifcmlhaa.Q
