/- Proved here: comparing types is a total order (plain laws, no program in sight). Conditions: those that each theorem names. -/
import Derived.Test.YtgnklkmifcmlhaaHCmp
namespace Go.Proofs.Ytgnklkmifcmlhaa.Q
open Go.RowKit Go.Proofs.YtgnklkmifcmlhaaW.PrintWords Go.Proofs.YtgnklkmifcmlhaaW.PrintMore
set_option linter.unusedVariables false
set_option linter.unusedSimpArgs false

def lx (a b : Int) : Int := if a ≠ 0 then a else b
def T3 (p q r : Int) : Prop := (p ≤ 0 → q ≤ 0 → r ≤ 0) ∧ (p < 0 → q ≤ 0 → r < 0) ∧ (p ≤ 0 → q < 0 → r < 0) ∧ (p = 0 → q = 0 → r = 0)
def O2 (p q : Int) : Prop := (p = -1 ∨ p = 0 ∨ p = 1) ∧ q = -p
theorem T3.lex {a1 a2 a3 b1 b2 b3 : Int} (h : T3 a1 a2 a3) (h2 : T3 b1 b2 b3) : T3 (lx a1 b1) (lx a2 b2) (lx a3 b3) := by
  obtain ⟨p1, p2, p3, p4⟩ := h
  obtain ⟨q1, q2, q3, q4⟩ := h2
  unfold lx
  refine ⟨?_, ?_, ?_, ?_⟩
  all_goals
    split <;> split <;> split <;> omega
theorem O2.lex {a1 a2 b1 b2 : Int} (h : O2 a1 a2) (h2 : O2 b1 b2) : O2 (lx a1 b1) (lx a2 b2) := by
  obtain ⟨p1, p2⟩ := h
  obtain ⟨q1, q2⟩ := h2
  unfold lx O2
  split <;> split <;> omega
theorem cmpI_T (a b c : Int) : T3 (cmpI a b) (cmpI b c) (cmpI a c) := by
  unfold cmpI
  refine ⟨?_, ?_, ?_, ?_⟩
  all_goals
    repeat' split
    all_goals omega
theorem cmpI_O (a b : Int) : O2 (cmpI a b) (cmpI b a) := by
  unfold cmpI O2
  repeat' split
  all_goals omega
theorem cb_cons (a b : UInt8) (x y : List UInt8) : Lib.compareBytes (a :: x) (b :: y) = lx (cmpI (a.toNat : Int) (b.toNat : Int)) (Lib.compareBytes x y) := by
  simp only [Lib.compareBytes, UInt8.lt_iff_toNat_lt]
  unfold lx cmpI
  by_cases h1 : a.toNat < b.toNat
  · rw [if_pos h1, if_pos (show (a.toNat : Int) < (b.toNat : Int) by omega)]; rfl
  · rw [if_neg h1, if_neg (show ¬ (a.toNat : Int) < (b.toNat : Int) by omega)]
    by_cases h2 : b.toNat < a.toNat
    · rw [if_pos h2, if_pos (show (b.toNat : Int) < (a.toNat : Int) by omega)]; rfl
    · rw [if_neg h2, if_neg (show ¬ (b.toNat : Int) < (a.toNat : Int) by omega)]; rfl
theorem cmpB_T : ∀ x y z : List UInt8, T3 (Lib.compareBytes x y) (Lib.compareBytes y z) (Lib.compareBytes x z)
  | [], y, z => by cases y <;> cases z <;> simp [Lib.compareBytes, T3]
  | a :: x, [], z => by cases z <;> simp [Lib.compareBytes, T3]
  | a :: x, b :: y, [] => by simp [Lib.compareBytes, T3]
  | a :: x, b :: y, c :: z => by
    rw [cb_cons, cb_cons, cb_cons]
    exact T3.lex (cmpI_T _ _ _) (cmpB_T x y z)
theorem cmpB_O : ∀ x y : List UInt8, O2 (Lib.compareBytes x y) (Lib.compareBytes y x)
  | [], y => by cases y <;> simp [Lib.compareBytes, O2]
  | a :: x, [] => by simp [Lib.compareBytes, O2]
  | a :: x, b :: y => by
    rw [cb_cons, cb_cons]
    exact O2.lex (cmpI_O _ _) (cmpB_O x y)
theorem or3_lx (a b c : Int) : or3 a b c = lx a (lx b c) := rfl
theorem headC_T (x y z : S25) : T3 (headC x y) (headC y z) (headC x z) := by
  unfold headC
  rw [or3_lx, or3_lx, or3_lx]
  exact T3.lex (cmpI_T _ _ _) (T3.lex (cmpB_T _ _ _) (cmpI_T _ _ _))
theorem headC_O (x y : S25) : O2 (headC x y) (headC y x) := by
  unfold headC
  rw [or3_lx, or3_lx]
  exact O2.lex (cmpI_O _ _) (O2.lex (cmpB_O _ _) (cmpI_O _ _))
theorem cmpT_lx (a b : S25) : cmpT a b = lx (headC a b) (cmpL a.f2 b.f2) := cmpT_eq a b
theorem cmpL_lx (a b : S25) (l m : List S25) : cmpL (a :: l) (b :: m) = lx (cmpT a b) (cmpL l m) := by rw [cmpL]; rfl
mutual
theorem cmpT_T : ∀ x y z : S25, T3 (cmpT x y) (cmpT y z) (cmpT x z)
  | ⟨a, b, l⟩, y, z => by
    rw [cmpT_lx, cmpT_lx, cmpT_lx]
    exact T3.lex (headC_T _ _ _) (cmpL_T l _ _)
theorem cmpL_T : ∀ l m n : List S25, T3 (cmpL l m) (cmpL m n) (cmpL l n)
  | [], m, n => by cases m <;> cases n <;> simp [cmpL, T3]
  | a :: l, [], n => by cases n <;> simp [cmpL, T3]
  | a :: l, b :: m, [] => by simp [cmpL, T3]
  | a :: l, b :: m, c :: n => by
    rw [cmpL_lx, cmpL_lx, cmpL_lx]
    exact T3.lex (cmpT_T a b c) (cmpL_T l m n)
end
mutual
theorem cmpT_O : ∀ x y : S25, O2 (cmpT x y) (cmpT y x)
  | ⟨a, b, l⟩, y => by
    rw [cmpT_lx, cmpT_lx]
    exact O2.lex (headC_O _ _) (cmpL_O l _)
theorem cmpL_O : ∀ l m : List S25, O2 (cmpL l m) (cmpL m l)
  | [], m => by cases m <;> simp [cmpL, O2]
  | a :: l, [] => by simp [cmpL, O2]
  | a :: l, b :: m => by
    rw [cmpL_lx, cmpL_lx]
    exact O2.lex (cmpT_O a b) (cmpL_O l m)
end
end Go.Proofs.Ytgnklkmifcmlhaa.Q
