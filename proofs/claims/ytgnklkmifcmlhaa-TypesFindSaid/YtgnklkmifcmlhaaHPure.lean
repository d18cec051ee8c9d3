/- Proved here: what the printed functions on sizes, names and shapes of types answer in the end. Conditions: those that each theorem names. -/
import Derived.Test.YtgnklkmifcmlhaaHTwin
import Derived.Test.YtgnklkmifcmlhaaQ9
import Derived.Test.YtgnklkmifcmlhaaQ10
import Derived.Test.YtgnklkmifcmlhaaQ12
namespace Go.Proofs.Ytgnklkmifcmlhaa.Q
open Go.RowKit Go.Proofs.YtgnklkmifcmlhaaW.PrintWords Go.Proofs.YtgnklkmifcmlhaaW.PrintMore
set_option linter.unusedVariables false
set_option linter.unusedSimpArgs false

/-! ### What a function with a purse answers in the end -/
def Ev {α : Type} (f : Nat → Option α) (r : α) : Prop := ∃ K, ∀ k, K ≤ k → f k = some r
theorem Ev.pure {α : Type} (r : α) : Ev (fun _ => some r) r := ⟨0, fun _ _ => rfl⟩
theorem Ev.bind {α β : Type} {f : Nat → Option α} {g : α → Nat → Option β} {a : α} {r : β} (h : Ev f a) (h2 : Ev (fun k => g a k) r) : Ev (fun k => (f k).bind fun x => g x k) r := by
  obtain ⟨K, hK⟩ := h
  obtain ⟨K2, hK2⟩ := h2
  exact ⟨K + K2, fun k hk => by show (f k).bind _ = _; rw [hK k (by omega), Option.bind_some]; exact hK2 k (by omega)⟩
theorem Ev.succ {α : Type} {f : Nat → Option α} {r : α} (h : Ev (fun k => f (k + 1)) r) : Ev f r := by
  obtain ⟨K, hK⟩ := h
  exact ⟨K + 1, fun k hk => by
    obtain ⟨k', rfl⟩ : ∃ k', k = k' + 1 := ⟨k - 1, by omega⟩
    exact hK k' (by omega)⟩
theorem Ev.cong {α : Type} {f g : Nat → Option α} {r : α} (h : Ev g r) (e : ∀ k, f k = g k) : Ev f r := by
  obtain ⟨K, hK⟩ := h
  exact ⟨K, fun k hk => (e k).trans (hK k hk)⟩
theorem Ev.val {α : Type} {f : Nat → Option α} {r r' : α} (h : Ev f r) (e : r = r') : Ev f r' := e ▸ h
theorem Ev.at {α : Type} {f : Nat → Option α} {r : α} (h : Ev f r) : ∃ k, f k = some r := by
  obtain ⟨K, hK⟩ := h
  exact ⟨K, hK K (Nat.le_refl _)⟩
theorem down (P : Nat → Prop) (n : Nat) (hn : P n) (hs : ∀ j, j < n → P (j + 1) → P j) : P 0 := by
  have : ∀ d j, j + d = n → P j := by
    intro d
    induction d with
    | zero => intro j hj; have e : j = n := by omega
              rw [e]; exact hn
    | succ d ih => intro j hj; exact hs j (by omega) (ih (j + 1) (by omega))
  exact this n 0 (by omega)
theorem Ev.ite {α : Type} {c : Prop} [Decidable c] {f g : Nat → Option α} {r : α} (h : c → Ev f r) (h2 : ¬ c → Ev g r) : Ev (fun k => if c then f k else g k) r := by
  by_cases hc : c
  · exact (h hc).cong (fun k => if_pos hc)
  · exact (h2 hc).cong (fun k => if_neg hc)
theorem Ev.pos {α : Type} {c : Prop} [Decidable c] {f g : Nat → Option α} {r : α} (hc : c) (h : Ev f r) : Ev (fun k => if c then f k else g k) r := h.cong (fun k => if_pos hc)
theorem Ev.neg {α : Type} {c : Prop} [Decidable c] {f g : Nat → Option α} {r : α} (hc : ¬ c) (h : Ev g r) : Ev (fun k => if c then f k else g k) r := h.cong (fun k => if_neg hc)
theorem w64 {x : Int} (h0 : -9223372036854775808 ≤ x) (h1 : x < 9223372036854775808) : wrap64 x = x := by unfold wrap64; omega
theorem w64s {j : Nat} (h : j < 9223372036854775807) : wrap64 ((j : Int) + 1) = ((j + 1 : Nat) : Int) := by rw [w64 (by omega) (by omega)]; omega
theorem rdT (l : List S25) (j : Nat) (h : j < l.length) : rd_T25 l (j : Int) = l[j] := by
  unfold rd_T25
  simp only [Int.toNat_natCast]
  rw [List.getD_eq_getElem?_getD, List.getElem?_eq_getElem h]
  rfl

theorem szL_take (l : List S25) (j : Nat) (h : j < l.length) : szL (l.take (j + 1)) = szL (l.take j) + szT l[j] := by
  induction l generalizing j with
  | nil => simp at h
  | cons a l ih =>
    cases j with
    | zero => simp [szL]
    | succ j =>
      simp only [List.length_cons] at h
      simp only [List.take_succ_cons, szL, List.getElem_cons_succ]
      rw [ih j (by omega)]
      omega
theorem szL_le (l : List S25) (j : Nat) (h : j < l.length) : szL (l.take j) + szT l[j] ≤ szL l := by
  rw [← szL_take l j h]
  have : ∀ (l : List S25) (n : Nat), szL (l.take n) ≤ szL l := by
    intro l
    induction l with
    | nil => intro n; simp
    | cons a l ih =>
      intro n
      cases n with
      | zero => simp [szL]
      | succ n => simp only [List.take_succ_cons, szL]; have := ih n; omega
  exact this l (j + 1)
mutual
def dpT : S25 → Nat
  | ⟨_, _, l⟩ => dpL l + 1
def dpL : List S25 → Nat
  | [] => 0
  | a :: l => max (dpT a) (dpL l)
end
theorem dpT_eq (t : S25) : dpT t = dpL t.f2 + 1 := by cases t; simp [dpT]
theorem dpL_take (l : List S25) (j : Nat) (h : j < l.length) : dpL (l.take (j + 1)) = max (dpL (l.take j)) (dpT l[j]) := by
  induction l generalizing j with
  | nil => simp at h
  | cons a l ih =>
    cases j with
    | zero => simp [dpL]
    | succ j =>
      simp only [List.length_cons] at h
      simp only [List.take_succ_cons, dpL, List.getElem_cons_succ]
      rw [ih j (by omega)]
      omega
mutual
theorem dpT_le : ∀ t : S25, dpT t ≤ szT t
  | ⟨_, _, l⟩ => by simp only [dpT, szT]; have := dpL_le l; omega
theorem dpL_le : ∀ l : List S25, dpL l ≤ szL l
  | [] => by simp [dpL, szL]
  | a :: l => by simp only [dpL, szL]; have := dpT_le a; have := dpL_le l; omega
end
/-- Induction over trees. -/
theorem S_ind {P : S25 → Prop} (h : ∀ t, (∀ x, x ∈ t.f2 → P x) → P t) (t : S25) : P t := by
  have : ∀ n t, szT t ≤ n → P t := by
    intro n
    induction n with
    | zero => intro t ht; have := szT_pos t; omega
    | succ n ih =>
      intro t ht
      refine h t (fun x hx => ih x ?_)
      have := szL_mem t.f2 x hx
      have := szT_eq t
      omega
  exact this _ t (Nat.le_refl _)

theorem size_ev (t : S25) : szT t ≤ 4611686018427387904 → Ev (fun k => types_Size.f k t.f0 t.f1 t.f2) (szT t : Int) := by
  induction t using S_ind with
  | _ t ih =>
  intro hb
  rw [szT_eq] at hb ⊢
  refine Ev.succ ?_
  simp only [types_Size.f]
  have hl := szL_len t.f2
  refine Ev.cong (down (fun j => Ev (fun k => types_Size.l0 k ((1 + szL (t.f2.take j) : Nat) : Int) t.f2 (t.f2.length : Int) (j : Int)) ((szL t.f2 + 1 : Nat) : Int)) t.f2.length ?_ ?_) (fun k => by simp [szL])
  · refine Ev.succ ?_
    simp only [types_Size.l0, List.take_length]
    refine Ev.neg (by omega) (?_)
    exact (Ev.pure _).val (by omega)
  · intro j hj h
    refine Ev.succ ?_
    have hle := szL_le t.f2 j hj
    simp only [types_Size.l0]
    refine Ev.pos (by omega) (Ev.pos (by omega) (Ev.pos (by omega) (?_)))
    rw [rdT t.f2 j hj]
    refine Ev.bind (ih _ (List.getElem_mem hj) (by omega)) ?_
    rw [w64s (by omega), w64 (by omega) (by omega)]
    rw [szL_take t.f2 j hj] at h
    exact h.cong (fun k => by congr 1; omega)
theorem mx_nat (a b : Nat) : mx (a : Int) (b : Int) = ((max a b : Nat) : Int) := by
  unfold mx
  split <;> omega
theorem depth_ev (t : S25) : szT t ≤ 4611686018427387904 → Ev (fun k => types_depth.f k t.f0 t.f1 t.f2) (dpT t : Int) := by
  induction t using S_ind with
  | _ t ih =>
  intro hb
  have hd := dpT_le t
  rw [szT_eq] at hb hd
  rw [dpT_eq] at hd ⊢
  refine Ev.succ ?_
  simp only [types_depth.f]
  have hl := szL_len t.f2
  refine Ev.cong (down (fun j => Ev (fun k => types_depth.l0 k ((dpL (t.f2.take j) : Nat) : Int) t.f2 (t.f2.length : Int) (j : Int)) ((dpL t.f2 + 1 : Nat) : Int)) t.f2.length ?_ ?_) (fun k => by simp [dpL])
  · refine Ev.succ ?_
    simp only [types_depth.l0, List.take_length]
    refine Ev.neg (by omega) (?_)
    rw [w64 (by omega) (by omega)]
    exact (Ev.pure _).val (by omega)
  · intro j hj h
    refine Ev.succ ?_
    have hle := szL_le t.f2 j hj
    simp only [types_depth.l0]
    refine Ev.pos (by omega) (Ev.pos (by omega) (Ev.pos (by omega) (?_)))
    rw [rdT t.f2 j hj]
    refine Ev.bind (ih _ (List.getElem_mem hj) (by omega)) ?_
    rw [w64s (by omega), mx_nat]
    rw [dpL_take t.f2 j hj] at h
    exact h
/-! ### names -/
def okC (c : Int) : Bool := !(decide (c < 33) || decide (c > 126) || c == 40 || c == 41 || c == 44 || c == 58 || c == 92 || c == 46 || c == 34)
def okFrom (s : ByteArray) : Nat → Nat → Bool
  | 0, _ => true
  | d + 1, j => okC (bt s (j : Int)) && okFrom s d (j + 1)
def nameB (s : ByteArray) : Bool := decide (0 < s.size) && decide (s.size ≤ 30) && okFrom s s.size 0
def varB (s : ByteArray) : Bool := nameB s && (bt s 0 == 39)
theorem toList_nil (s : ByteArray) : s.toList = [] ↔ s.size = 0 := by
  rw [Go.ByteArray.toList_eq, ← data_length s]
  exact List.length_eq_zero_iff.symm
theorem name_j1 (s : ByteArray) (c n i : Int) (b r : Bool) (h : Ev (fun k => types_name.l0 k s n (wrap64 (i + 1))) r) : Ev (fun k => types_name.j1 k s c n i b) (!b && !decide (c < 33) && !decide (c > 126) && r) := by
  refine Ev.succ ?_
  simp only [types_name.j1]
  refine Ev.ite (fun e => (Ev.pure _).val (by simp [e])) (fun e => Ev.ite (fun e2 => (Ev.pure _).val (by simp [e2])) (fun e2 => Ev.ite (fun e3 => (Ev.pure _).val (by simp [e3])) (fun e3 => h.val ?_)))
  rw [Bool.not_eq_true] at e
  simp [e, e2, e3]
theorem name_l0 (s : ByteArray) (hs : s.size ≤ 4611686018427387904) : ∀ (d j : Nat), j + d = s.size → Ev (fun k => types_name.l0 k s (s.size : Int) (j : Int)) (okFrom s d j && (decide (0 < s.size) && decide (s.size ≤ 30)))
  | 0, j, hj => by
    refine Ev.succ ?_
    simp only [types_name.l0]
    refine Ev.neg (by omega) (?_)
    refine Ev.ite (fun e => (Ev.pure _).val ?_) (fun e => (Ev.pure _).val ?_)
    · rw [toList_nil] at e
      simp [okFrom, e]
    · rw [toList_nil] at e
      have h0 : 0 < s.size := by omega
      simp only [okFrom, h0, decide_true, Bool.true_and]
      exact decide_eq_decide.2 (by omega)
  | d + 1, j, hj => by
    have ih := name_l0 s hs d (j + 1) (by omega)
    refine Ev.succ ?_
    simp only [types_name.l0]
    refine Ev.pos (by omega) (Ev.pos (by omega) (Ev.pos (by omega) (?_)))
    rw [← w64s (by omega)] at ih
    have hj1 := fun b => name_j1 s (bt s (j : Int)) (s.size : Int) (j : Int) b _ ih
    simp only [okFrom]
    generalize bt s (j : Int) = c at *
    generalize HR : (okFrom s d (j + 1) && (decide (0 < s.size) && decide (s.size ≤ 30))) = r at *
    refine Ev.ite (fun e => (hj1 _).val ?_) (fun e => Ev.ite (fun e2 => (hj1 _).val ?_) (fun e2 => Ev.ite (fun e3 => (hj1 _).val ?_) (fun e3 => Ev.ite (fun e4 => (hj1 _).val ?_) (fun e4 => Ev.ite (fun e5 => (hj1 _).val ?_) (fun e5 => Ev.ite (fun e6 => (hj1 _).val ?_) (fun e6 => (hj1 _).val ?_))))))
    · simp [okC, e]
    · simp [okC, e2]
    · simp [okC, e3]
    · simp [okC, e4]
    · simp [okC, e5]
    · simp [okC, e6]
    · simp only [okC, beq_eq_false_iff_ne.mpr e, beq_eq_false_iff_ne.mpr e2, beq_eq_false_iff_ne.mpr e3, beq_eq_false_iff_ne.mpr e4, beq_eq_false_iff_ne.mpr e5, beq_eq_false_iff_ne.mpr e6, Bool.or_false]
      rw [← HR]
      cases (c == 34) <;> cases decide (c < 33) <;> cases decide (c > 126) <;> simp [Bool.and_assoc]
theorem name_ev (s : ByteArray) (hs : s.size ≤ 4611686018427387904) : Ev (fun k => types_name.f k s) (nameB s) := by
  simp only [types_name.f]
  refine (name_l0 s hs s.size 0 (by omega)).val ?_
  unfold nameB
  cases okFrom s s.size 0 <;> simp
theorem nameB_pos {s : ByteArray} (h : nameB s = true) : 0 < s.size := by
  unfold nameB at h
  simp only [Bool.and_eq_true, decide_eq_true_eq] at h
  exact h.1.1
theorem variable_ev (s : ByteArray) (hs : s.size ≤ 4611686018427387904) : Ev (fun k => types_variable.f k s) (varB s) := by
  simp only [types_variable.f]
  unfold varB
  refine Ev.bind (name_ev s hs) (Ev.ite (fun e => Ev.pos (by have := nameB_pos e; omega) ((Ev.pure _).val (by simp [e]))) (fun e => (Ev.pure _).val (by simp [e])))
/-! ### types -/
def headB (v : Bool) (n : ByteArray) (m : Nat) : Bool := nameB n && (if v = true then (bt n 0 == 39) && (m == 0) else !(bt n 0 == 39) && decide (m ≤ 8))
mutual
def shB : S25 → Bool
  | ⟨v, n, l⟩ => headB v n l.length && shBL l
def shBL : List S25 → Bool
  | [] => true
  | a :: l => shB a && shBL l
end
theorem shB_eq (t : S25) : shB t = (headB t.f0 t.f1 t.f2.length && shBL t.f2) := by cases t; simp [shB]
theorem shBL_take (l : List S25) (j : Nat) (h : j < l.length) : shBL (l.take (j + 1)) = (shBL (l.take j) && shB l[j]) := by
  induction l generalizing j with
  | nil => simp at h
  | cons a l ih =>
    cases j with
    | zero => simp [shBL]
    | succ j =>
      simp only [List.length_cons] at h
      simp only [List.take_succ_cons, shBL, List.getElem_cons_succ]
      rw [ih j (by omega), Bool.and_assoc]
theorem shBL_drop (l : List S25) (j : Nat) (h : j < l.length) : shBL (l.drop j) = (shB l[j] && shBL (l.drop (j + 1))) := by
  rw [List.drop_eq_getElem_cons h]
  rfl
/-- The names of a type are of a length that a machine can bear. -/
def nmT (B : Nat) : S25 → Prop := fun t => t.f1.size ≤ B
mutual
def allT (P : S25 → Prop) : S25 → Prop
  | ⟨v, n, l⟩ => P ⟨v, n, l⟩ ∧ allL P l
def allL (P : S25 → Prop) : List S25 → Prop
  | [] => True
  | a :: l => allT P a ∧ allL P l
end
theorem allT_eq (P : S25 → Prop) (t : S25) : allT P t ↔ P t ∧ allL P t.f2 := by cases t; simp [allT]
theorem allL_mem (P : S25 → Prop) : ∀ (l : List S25), allL P l ↔ ∀ x, x ∈ l → allT P x
  | [] => by simp [allL]
  | a :: l => by simp [allL, allL_mem P l]
/-- What any machine can hold. -/
def okS (s : ByteArray) : Prop := s.size ≤ 4611686018427387904
def fit (t : S25) : Prop := szT t ≤ 4611686018427387904 ∧ allT (fun x => okS x.f1) t
theorem fit_mem {t x : S25} (h : fit t) (hx : x ∈ t.f2) : fit x := by
  have h1 := szL_mem t.f2 x hx
  have h2 := szT_eq t
  exact ⟨by have := h.1; omega, (allL_mem _ _).1 ((allT_eq _ t).1 h.2).2 x hx⟩
theorem fit_name {t : S25} (h : fit t) : t.f1.size ≤ 4611686018427387904 := ((allT_eq _ t).1 h.2).1

/-- Every row and name is of a length that a machine can bear; of the whole tree nothing is said. -/
def wd (t : S25) : Prop := allT (fun x => okS x.f1 ∧ x.f2.length ≤ 4611686018427387904) t
theorem wd_mem {t x : S25} (h : wd t) (hx : x ∈ t.f2) : wd x := (allL_mem _ _).1 ((allT_eq _ t).1 h).2 x hx
theorem wd_name {t : S25} (h : wd t) : t.f1.size ≤ 4611686018427387904 := ((allT_eq _ t).1 h).1.1
theorem wd_len {t : S25} (h : wd t) : t.f2.length ≤ 4611686018427387904 := ((allT_eq _ t).1 h).1.2
theorem allT_imp {P Q : S25 → Prop} (hi : ∀ x, P x → Q x) (t : S25) : allT P t → allT Q t := by
  induction t using S_ind with
  | _ t ih =>
    intro h
    have h2 := (allT_eq _ t).1 h
    exact (allT_eq _ t).2 ⟨hi t h2.1, (allL_mem _ _).2 (fun x hx => ih x hx ((allL_mem _ _).1 h2.2 x hx))⟩
theorem fit_of_wd {t : S25} (h : wd t) (hs : szT t ≤ 4611686018427387904) : fit t := ⟨hs, allT_imp (fun _ h => h.1) t h⟩
theorem nat_beq0 (n : Nat) : ((n : Int) == 0) = (n == 0) := by
  cases n with
  | zero => rfl
  | succ n => rw [beq_eq_false_iff_ne.mpr (show ((n + 1 : Nat) : Int) ≠ 0 by omega), beq_eq_false_iff_ne.mpr (show n + 1 ≠ 0 by omega)]
theorem measure_ev (t : S25) : fit t → Ev (fun k => types_measure.f k t.f0 t.f1 t.f2) ((szT t : Int), (dpT t : Int), shB t) := by
  induction t using S_ind with
  | _ t ih =>
  intro hf
  have hb := hf.1
  have hd := dpT_le t
  rw [szT_eq] at hb hd
  rw [dpT_eq] at hd
  have hl := szL_len t.f2
  have hloop : ∀ (b : Bool) a0 a1, Ev (fun k => types_measure.j0 k 1 0 b a0 a1 t.f2) ((szT t : Int), (dpT t : Int), b && shBL t.f2) := by
    intro b a0 a1
    refine Ev.succ ?_
    simp only [types_measure.j0]
    refine Ev.cong (down (fun j => Ev (fun k => types_measure.l0 k ((1 + szL (t.f2.take j) : Nat) : Int) ((dpL (t.f2.take j) : Nat) : Int) (b && shBL (t.f2.take j)) t.f2 (t.f2.length : Int) (j : Int)) ((szT t : Int), (dpT t : Int), b && shBL t.f2)) t.f2.length ?_ ?_) (fun k => by simp [szL, dpL, shBL])
    · refine Ev.succ ?_
      simp only [types_measure.l0, List.take_length]
      refine Ev.neg (by omega) ((Ev.pure _).val ?_)
      rw [szT_eq, dpT_eq, w64 (by omega) (by omega)]
      exact Prod.ext (by simp; omega) (Prod.ext (by simp) rfl)
    · intro j hj h
      refine Ev.succ ?_
      have hle := szL_le t.f2 j hj
      simp only [types_measure.l0]
      refine Ev.pos (by omega) (Ev.pos (by omega) (Ev.pos (by omega) ?_))
      rw [rdT t.f2 j hj]
      refine Ev.bind (ih _ (List.getElem_mem hj) (fit_mem hf (List.getElem_mem hj))) ?_
      dsimp only
      rw [w64s (by omega), mx_nat, w64 (by omega) (by omega)]
      rw [szL_take t.f2 j hj, dpL_take t.f2 j hj, shBL_take t.f2 j hj] at h
      refine Ev.ite (fun e => ?_) (fun e => ?_)
      · simp only [Bool.and_eq_true] at e
        rw [e.1, e.2] at h
        simp only [Bool.true_and] at h
        rw [e.1]
        exact h.cong (fun k => by congr 1; omega)
      · have e2 : (b && (shBL (t.f2.take j) && shB t.f2[j])) = false := by
          rw [← Bool.and_assoc]
          rw [Bool.not_eq_true] at e
          rw [e]
          rfl
        rw [e2] at h
        exact h.cong (fun k => by congr 1; omega)
  have hn := fit_name hf
  refine Ev.succ ?_
  simp only [types_measure.f]
  rw [shB_eq]
  unfold headB
  refine Ev.ite (fun e => ?_) (fun e => ?_)
  · refine Ev.bind (variable_ev _ hn) (Ev.ite (fun e2 => (hloop _ _ _).val ?_) (fun e2 => (hloop _ _ _).val ?_))
    · unfold varB at e2
      simp only [Bool.and_eq_true] at e2
      rw [if_pos e, e2.1, e2.2, nat_beq0]
      simp
    · unfold varB at e2
      rw [Bool.not_eq_true] at e2
      rw [if_pos e, ← Bool.and_assoc, e2]
      simp
  · rw [if_neg e]
    refine Ev.bind (name_ev _ hn) (Ev.ite (fun e2 => Ev.pos (by have := nameB_pos e2; omega) (Ev.ite (fun e3 => (hloop _ _ _).val ?_) (fun e3 => (hloop _ _ _).val ?_))) (fun e2 => (hloop _ _ _).val ?_))
    · simp [e3]
    · rw [e2, beq_eq_false_iff_ne.mpr e3, show decide ((t.f2.length : Int) ≤ 8) = decide (t.f2.length ≤ 8) from decide_eq_decide.2 (by omega)]
      simp
    · rw [Bool.not_eq_true] at e2
      rw [e2]
      simp
def chkB (t : S25) : Bool := shB t && decide (szT t ≤ 500) && decide (dpT t ≤ 200)
theorem check_ev (t : S25) (hf : fit t) : Ev (fun k => types_Check.f k t.f0 t.f1 t.f2) (if chkB t = true then 0 else 10) := by
  simp only [types_Check.f]
  unfold chkB
  refine Ev.bind (measure_ev t hf) ?_
  dsimp only
  refine Ev.ite (fun e => Ev.ite (fun e2 => (Ev.pure _).val ?_) (fun e2 => Ev.ite (fun e3 => (Ev.pure _).val ?_) (fun e3 => (Ev.pure _).val ?_))) (fun e => (Ev.pure _).val ?_)
  · rw [decide_eq_false (show ¬ szT t ≤ 500 by omega)]
    simp
  · rw [decide_eq_false (show ¬ dpT t ≤ 200 by omega)]
    simp
  · rw [decide_eq_true (show szT t ≤ 500 by omega), decide_eq_true (show dpT t ≤ 200 by omega), e]
    simp
  · rw [Bool.not_eq_true] at e
    rw [e]
    simp
theorem small_ev (t : S25) (hf : szT t ≤ 4611686018427387904) : Ev (fun k => types_small.f k t.f0 t.f1 t.f2) (decide (szT t ≤ 500) && decide (dpT t ≤ 200)) := by
  simp only [types_small.f]
  refine Ev.bind (depth_ev t hf) (Ev.ite (fun e => Ev.bind (size_ev t hf) ((Ev.pure _).val ?_)) (fun e => (Ev.pure _).val ?_))
  · rw [decide_eq_true (show dpT t ≤ 200 by omega), Bool.and_true]
    exact decide_eq_decide.2 (by omega)
  · rw [decide_eq_false (show ¬ dpT t ≤ 200 by omega), Bool.and_false]
end Go.Proofs.Ytgnklkmifcmlhaa.Q
