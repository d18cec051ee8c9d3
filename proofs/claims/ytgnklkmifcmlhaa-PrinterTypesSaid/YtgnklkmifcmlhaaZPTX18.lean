/- Proved here: parts of the proof of a given statement (HRowPrinterTypes): contracts of the functions that it reaches, what they answer, and in the last text the statement itself. Conditions: those that each theorem names. -/
import Derived.Test.YtgnklkmifcmlhaaZPTX14
import Derived.Test.YtgnklkmifcmlhaaZPTX7
import Derived.Test.YtgnklkmifcmlhaaZPTX6
import Derived.Test.YtgnklkmifcmlhaaZPTX16
import Derived.Test.YtgnklkmifcmlhaaZPTX17
import Derived.Test.YtgnklkmifcmlhaaZPTX8
/- Proved here: printer.CheckSyntax and its reference answer the same. Conditions: those that each theorem names. -/
namespace Go.Proofs.Ytgnklkmifcmlhaa.Q
open Go.RowKit Go.Shelf Go.Proofs.YtgnklkmifcmlhaaW.PrintWords Go.Proofs.YtgnklkmifcmlhaaW.PrintMore
set_option linter.unusedVariables false
set_option linter.unusedSimpArgs false

/-! ### Names -/
def nmC (n : ByteArray) : Bool := nameB n && !(bt n 0 == 39)
def nv (n : ByteArray) : Bool := nmC n && !(n.toList == [124, 45])
def boolT : S25 := ⟨false, ⟨#[98, 111, 111, 108]⟩, []⟩
theorem fit_leaf (v : Bool) (n : ByteArray) (h : okS n) : fit ⟨v, n, []⟩ := ⟨by simp [szT, szL], by simp [allT, allL, h]⟩
theorem chk_leaf (n : ByteArray) : chkB ⟨false, n, []⟩ = nmC n := by
  simp [chkB, shB, shBL, headB, nmC, szT, szL, dpT, dpL]
theorem chk_bool : chkB boolT = true := by rw [boolT, chk_leaf]; decide +kernel
theorem pvalid_ev (n : ByteArray) (h : okS n) : Ev (fun k => printer_valid.f k n) (nv n) := by
  have hB := check_ev boolT (fit_leaf _ _ (by unfold okS; decide +kernel))
  rw [if_pos chk_bool] at hB
  have hN := check_ev ⟨false, n, []⟩ (fit_leaf _ _ h)
  rw [chk_leaf] at hN
  simp only [printer_valid.f, types_Bool.f, Option.bind_some, terms_Const.f, terms_leaf.f, terms_named.f]
  by_cases hc : nmC n = true
  · rw [if_pos hc] at hN
    refine Ev.bind (a := (2, n, false, ⟨#[98, 111, 111, 108]⟩, [], 0, [], 0)) (Ev.bind (a := (2, n, false, ⟨#[98, 111, 111, 108]⟩, [], 0, [], 0)) (Ev.bind hB (Ev.pos rfl (Ev.bind (a := true) (Ev.bind hN (Ev.pure _)) (Ev.pos rfl ((Ev.pure _).val ?_))))) (Ev.pure _)) (Ev.pos rfl ((Ev.pure _).val ?_))
    all_goals (first | rfl | (simp [nv, hc, bne]))
  · rw [if_neg hc] at hN
    refine Ev.bind (a := (0, ⟨#[]⟩, false, ⟨#[]⟩, [], 0, [], 20)) (Ev.bind (a := (0, ⟨#[]⟩, false, ⟨#[]⟩, [], 0, [], 20)) (Ev.bind hB (Ev.pos rfl (Ev.bind (a := false) (Ev.bind hN (Ev.pure _)) (Ev.neg (by decide) (Ev.pure _))))) (Ev.pure _)) (Ev.neg (by decide) ((Ev.pure _).val ?_))
    simp [nv, hc]
theorem rname_ev (n : ByteArray) (h : okS n) : Ev (fun k => sequentref02_Name.f k n) (nmC n) := by
  simp only [sequentref02_Name.f]
  refine Ev.bind (refname_ev n h) (Ev.ite (fun e => Ev.pos ?_ ((Ev.pure _).val ?_)) (fun e => (Ev.pure _).val ?_))
  · have e' := e
    simp only [nameB, Bool.and_eq_true, decide_eq_true_eq] at e'
    omega
  · simp [nmC, e, bne]
  · simp [nmC, e]

/-! ### The checks as plain tests -/
def dsB : List ByteArray → List ByteArray → Bool
  | _, [] => true
  | s, a :: l => nv a && (!inS s a && dsB (s ++ [a]) l)
theorem dsB_append : ∀ (l m s : List ByteArray), dsB s (l ++ m) = (dsB s l && dsB (s ++ l) m)
  | [], m, s => by simp [dsB]
  | a :: l, m, s => by simp [dsB, dsB_append l m, List.append_assoc, Bool.and_assoc]
def rgB (p : Int) : Bool := decide (1 ≤ p) && decide (p ≤ 99)
def inB : List (Int × Bool) → List S119 → Bool
  | _, [] => true
  | d, a :: l => (rgB a.f1 && sideOk d a.f1 a.f2) && inB (putI a.f1 a.f2 d) l
def sdA : List (Int × Bool) → List S119 → List (Int × Bool)
  | d, [] => d
  | d, a :: l => sdA (putI a.f1 a.f2 d) l
def prB (d : List (Int × Bool)) : List S122 → Bool
  | [] => true
  | a :: l => (rgB a.f1 && !(lookI a.f1 d).isSome) && prB d l
def cnsB : List ByteArray → Bool
  | [] => true
  | a :: l => nv a && cnsB l
def ovB : List S111 → Bool
  | [] => true
  | a :: l => ((decide (1 ≤ a.f1.length) && decide (a.f1.length ≤ 8)) && cnsB a.f1) && ovB l

theorem mem_inS (s : List ByteArray) (n : ByteArray) : decide (n ∈ s) = inS s n := by
  rw [Bool.eq_iff_iff, decide_eq_true_eq, inS_iff]
def addB (ok : Bool) (s : List ByteArray) (n : ByteArray) : Bool × List ByteArray := if ok = true then (nv n && !inS s n, addS n s) else (false, s)
theorem addF_ev (ok : Bool) (s : List ByteArray) (n : ByteArray) (h : okS n) : Ev (fun k => addF (printer_valid.f k) ok s n) (addB ok s n) := by
  simp only [addF, addB]
  cases ok with
  | false => exact Ev.neg (by simp) ((Ev.pure _).val (by simp))
  | true => exact Ev.pos rfl (Ev.bind (pvalid_ev n h) ((Ev.pure _).val (by simp [mem_inS])))
theorem addB_ok {ok : Bool} {s : List ByteArray} {n : ByteArray} (h : (addB ok s n).1 = true) : addB ok s n = (true, s ++ [n]) ∧ ok = true ∧ nv n = true ∧ inS s n = false := by
  unfold addB at h ⊢
  cases ok with
  | false => simp at h
  | true =>
    simp only [if_true, Bool.and_eq_true, Bool.not_eq_true'] at h ⊢
    obtain ⟨h1, h2⟩ := h
    refine ⟨?_, trivial, h1, h2⟩
    rw [h1, h2, addS, if_neg]
    · rfl
    · intro hm
      rw [← inS_iff, h2] at hm
      cases hm
theorem addB_no {ok : Bool} {s : List ByteArray} {n : ByteArray} (h : (addB ok s n).1 = false) : (ok && (nv n && !inS s n)) = false := by
  unfold addB at h
  cases ok with
  | false => rfl
  | true => simpa using h
theorem no_and : ∀ o n i D E : Bool, (o && (n && i)) = false → (o && ((n && (i && D)) && E)) = false := by decide
theorem no_and2 : ∀ o n i D : Bool, (o && (n && i)) = false → (o && (n && (i && D))) = false := by decide
/-- What the loops answer: the flag; and if it holds, the names so far. -/
theorem inF_ev : ∀ (l : List S119) (ok : Bool) (s : List ByteArray) (d : List (Int × Bool)), (∀ a, a ∈ l → okS a.f0) →
    ∃ s', Ev (fun k => inF (printer_valid.f k) l ok s d) ((ok && (dsB s (l.map (·.f0)) && inB d l)), s', sdA d l) ∧ ((ok && (dsB s (l.map (·.f0)) && inB d l)) = true → s' = s ++ l.map (·.f0))
  | [], ok, s, d, _ => ⟨s, (Ev.pure _).val (by simp [dsB, inB, sdA]), fun _ => by simp⟩
  | a :: l, ok, s, d, h => by
    have h0 := addF_ev ok s a.f0 (h a (List.mem_cons_self ..))
    obtain ⟨s', h1, h2⟩ := inF_ev l ((addB ok s a.f0).1 && (decide (1 ≤ a.f1) && (decide (a.f1 ≤ 99) && sideOk d a.f1 a.f2))) (addB ok s a.f0).2 (putI a.f1 a.f2 d) (fun x hx => h x (List.mem_cons_of_mem _ hx))
    have key : (((addB ok s a.f0).1 && (decide (1 ≤ a.f1) && (decide (a.f1 ≤ 99) && sideOk d a.f1 a.f2))) && (dsB (addB ok s a.f0).2 (l.map (·.f0)) && inB (putI a.f1 a.f2 d) l)) = (ok && (dsB s ((a :: l).map (·.f0)) && inB d (a :: l))) := by
      cases hq : (addB ok s a.f0).1 with
      | false =>
        have := addB_no hq
        simp only [List.map_cons, dsB]
        rw [no_and _ _ _ _ _ this]
        rfl
      | true =>
        obtain ⟨e1, rfl, e3, e4⟩ := addB_ok hq
        rw [e1]
        simp only [List.map_cons, dsB, inB, rgB, e3, e4, Bool.true_and, Bool.not_false]
        cases decide (1 ≤ a.f1) <;> cases decide (a.f1 ≤ 99) <;> cases sideOk d a.f1 a.f2 <;> simp
    rw [key] at h1 h2
    refine ⟨s', Ev.bind h0 h1, fun hk => ?_⟩
    rw [h2 hk]
    have hq : (addB ok s a.f0).1 = true := by
      rw [← key] at hk
      simp only [Bool.and_eq_true] at hk
      exact hk.1.1
    rw [(addB_ok hq).1]
    simp
theorem prF_ev (d : List (Int × Bool)) : ∀ (l : List S122) (ok : Bool) (s : List ByteArray), (∀ a, a ∈ l → okS a.f0) →
    ∃ s', Ev (fun k => prF (printer_valid.f k) d l ok s) ((ok && (dsB s (l.map (·.f0)) && prB d l)), s') ∧ ((ok && (dsB s (l.map (·.f0)) && prB d l)) = true → s' = s ++ l.map (·.f0))
  | [], ok, s, _ => ⟨s, (Ev.pure _).val (by simp [dsB, prB]), fun _ => by simp⟩
  | a :: l, ok, s, h => by
    have h0 := addF_ev ok s a.f0 (h a (List.mem_cons_self ..))
    obtain ⟨s', h1, h2⟩ := prF_ev d l ((addB ok s a.f0).1 && (decide (1 ≤ a.f1) && (decide (a.f1 ≤ 99) && !(lookI a.f1 d).isSome))) (addB ok s a.f0).2 (fun x hx => h x (List.mem_cons_of_mem _ hx))
    have key : (((addB ok s a.f0).1 && (decide (1 ≤ a.f1) && (decide (a.f1 ≤ 99) && !(lookI a.f1 d).isSome))) && (dsB (addB ok s a.f0).2 (l.map (·.f0)) && prB d l)) = (ok && (dsB s ((a :: l).map (·.f0)) && prB d (a :: l))) := by
      cases hq : (addB ok s a.f0).1 with
      | false =>
        have := addB_no hq
        simp only [List.map_cons, dsB]
        rw [no_and _ _ _ _ _ this]
        rfl
      | true =>
        obtain ⟨e1, rfl, e3, e4⟩ := addB_ok hq
        rw [e1]
        simp only [List.map_cons, dsB, prB, rgB, e3, e4, Bool.true_and, Bool.not_false]
        cases decide (1 ≤ a.f1) <;> cases decide (a.f1 ≤ 99) <;> cases (lookI a.f1 d).isSome <;> simp
    rw [key] at h1 h2
    refine ⟨s', Ev.bind h0 h1, fun hk => ?_⟩
    rw [h2 hk]
    have hq : (addB ok s a.f0).1 = true := by
      rw [← key] at hk
      simp only [Bool.and_eq_true] at hk
      exact hk.1.1
    rw [(addB_ok hq).1]
    simp
theorem biF_ev : ∀ (l : List ByteArray) (ok : Bool) (s : List ByteArray), (∀ a, a ∈ l → okS a) →
    ∃ s', Ev (fun k => biF (printer_valid.f k) l ok s) ((ok && dsB s l), s')
  | [], ok, s, _ => ⟨s, (Ev.pure _).val (by simp [dsB])⟩
  | a :: l, ok, s, h => by
    have h0 := addF_ev ok s a (h a (List.mem_cons_self ..))
    obtain ⟨s', h1⟩ := biF_ev l (addB ok s a).1 (addB ok s a).2 (fun x hx => h x (List.mem_cons_of_mem _ hx))
    have key : ((addB ok s a).1 && dsB (addB ok s a).2 l) = (ok && dsB s (a :: l)) := by
      cases hq : (addB ok s a).1 with
      | false =>
        have := addB_no hq
        simp only [dsB]
        rw [no_and2 _ _ _ _ this]
        rfl
      | true =>
        obtain ⟨e1, rfl, e3, e4⟩ := addB_ok hq
        rw [e1]
        simp [dsB, e3, e4]
    rw [key] at h1
    exact ⟨s', Ev.bind h0 h1⟩
theorem coF_ev : ∀ (l : List ByteArray) (ok : Bool), (∀ a, a ∈ l → okS a) → Ev (fun k => coF (printer_valid.f k) l ok) (ok && cnsB l)
  | [], ok, _ => (Ev.pure _).val (by simp [cnsB])
  | a :: l, ok, h => by
    simp only [coF]
    cases ok with
    | false => exact Ev.neg (by simp) ((coF_ev l false (fun x hx => h x (List.mem_cons_of_mem _ hx))).val (by simp))
    | true => exact Ev.pos rfl (Ev.bind (pvalid_ev a (h a (List.mem_cons_self ..))) ((coF_ev l _ (fun x hx => h x (List.mem_cons_of_mem _ hx))).val (by simp [cnsB])))
theorem ovF_ev : ∀ (l : List S111) (ok : Bool) (s : List ByteArray), (∀ a, a ∈ l → okS a.f0 ∧ ∀ x, x ∈ a.f1 → okS x) →
    ∃ s', Ev (fun k => ovF (printer_valid.f k) l ok s) ((ok && (dsB s (l.map (·.f0)) && ovB l)), s')
  | [], ok, s, _ => ⟨s, (Ev.pure _).val (by simp [dsB, ovB])⟩
  | a :: l, ok, s, h => by
    have h0 := addF_ev ok s a.f0 (h a (List.mem_cons_self ..)).1
    have hc := coF_ev a.f1 ((addB ok s a.f0).1 && (decide (1 ≤ (a.f1.length : Int)) && decide ((a.f1.length : Int) ≤ 8))) (h a (List.mem_cons_self ..)).2
    obtain ⟨s', h1⟩ := ovF_ev l (((addB ok s a.f0).1 && (decide (1 ≤ (a.f1.length : Int)) && decide ((a.f1.length : Int) ≤ 8))) && cnsB a.f1) (addB ok s a.f0).2 (fun x hx => h x (List.mem_cons_of_mem _ hx))
    have key : ((((addB ok s a.f0).1 && (decide (1 ≤ (a.f1.length : Int)) && decide ((a.f1.length : Int) ≤ 8))) && cnsB a.f1) && (dsB (addB ok s a.f0).2 (l.map (·.f0)) && ovB l)) = (ok && (dsB s ((a :: l).map (·.f0)) && ovB (a :: l))) := by
      rw [show decide (1 ≤ (a.f1.length : Int)) = decide (1 ≤ a.f1.length) from decide_eq_decide.2 (by omega), show decide ((a.f1.length : Int) ≤ 8) = decide (a.f1.length ≤ 8) from decide_eq_decide.2 (by omega)]
      cases hq : (addB ok s a.f0).1 with
      | false =>
        have := addB_no hq
        simp only [List.map_cons, dsB]
        rw [no_and _ _ _ _ _ this]
        rfl
      | true =>
        obtain ⟨e1, rfl, e3, e4⟩ := addB_ok hq
        rw [e1]
        simp only [List.map_cons, dsB, ovB, e3, e4, Bool.true_and, Bool.not_false]
        cases decide (1 ≤ a.f1.length) <;> cases decide (a.f1.length ≤ 8) <;> cases cnsB a.f1 <;> simp
    rw [key] at h1
    exact ⟨s', Ev.bind h0 (Ev.bind hc h1)⟩
def opsL (l0 : List S119) (l1 : List S122) (l2 : List ByteArray) : List ByteArray := (l0.map (·.f0) ++ l1.map (·.f0)) ++ l2
def synB (l0 : List S119) (l1 : List S122) (l2 : List ByteArray) (l3 : List S111) : Bool :=
  (dsB [] (opsL l0 l1 l2) && dsB [] (l3.map (·.f0))) && ((inB [] l0 && prB (sdA [] l0) l1) && ovB l3)
theorem ck_ev (l0 : List S119) (l1 : List S122) (l2 : List ByteArray) (l3 : List S111)
    (h0 : ∀ a, a ∈ l0 → okS a.f0) (h1 : ∀ a, a ∈ l1 → okS a.f0) (h2 : ∀ a, a ∈ l2 → okS a) (h3 : ∀ a, a ∈ l3 → okS a.f0 ∧ ∀ x, x ∈ a.f1 → okS x) :
    Ev (fun k => ckF (printer_valid.f k) l0 l1 l2 l3) (if (64 < l0.length ∨ 64 < l1.length ∨ 64 < l2.length ∨ 64 < l3.length) then 8 else if synB l0 l1 l2 l3 = true then 0 else 8) := by
  simp only [ckF]
  refine Ev.ite (fun e => (Ev.pure _).val (by rw [if_pos e])) (fun e => ?_)
  rw [if_neg e]
  obtain ⟨s0, g0, e0⟩ := inF_ev l0 true [] [] h0
  obtain ⟨s1, g1, e1⟩ := prF_ev (sdA [] l0) l1 (true && (dsB [] (l0.map (·.f0)) && inB [] l0)) s0 h1
  obtain ⟨s2, g2⟩ := biF_ev l2 ((true && (dsB [] (l0.map (·.f0)) && inB [] l0)) && (dsB s0 (l1.map (·.f0)) && prB (sdA [] l0) l1)) s1 h2
  obtain ⟨s3, g3⟩ := ovF_ev l3 (((true && (dsB [] (l0.map (·.f0)) && inB [] l0)) && (dsB s0 (l1.map (·.f0)) && prB (sdA [] l0) l1)) && dsB s1 l2) [] h3
  refine Ev.bind g0 (Ev.bind g1 (Ev.bind g2 (Ev.bind g3 ((Ev.pure _).val ?_))))
  have key : ((((true && (dsB [] (l0.map (·.f0)) && inB [] l0)) && (dsB s0 (l1.map (·.f0)) && prB (sdA [] l0) l1)) && dsB s1 l2) && (dsB [] (l3.map (·.f0)) && ovB l3)) = synB l0 l1 l2 l3 := by
    unfold synB opsL
    rw [dsB_append, dsB_append]
    by_cases c0 : (true && (dsB [] (l0.map (·.f0)) && inB [] l0)) = true
    · rw [e0 c0] at e1 ⊢
      by_cases c1 : ((true && (dsB [] (l0.map (·.f0)) && inB [] l0)) && (dsB ([] ++ l0.map (·.f0)) (l1.map (·.f0)) && prB (sdA [] l0) l1)) = true
      · rw [e1 c1, c1]
        simp only [Bool.and_eq_true, Bool.true_and] at c1
        rw [c1.1.1, c1.1.2, c1.2.1, c1.2.2, List.nil_append]
        simp
        cases dsB (l0.map (·.f0) ++ l1.map (·.f0)) l2 <;> simp
      · rw [Bool.not_eq_true] at c1
        rw [c1]
        generalize dsB [] (l0.map (·.f0)) = b1 at *
        generalize inB [] l0 = b2 at *
        generalize dsB ([] ++ l0.map (·.f0)) (l1.map (·.f0)) = b3 at *
        generalize prB (sdA [] l0) l1 = b4 at *
        cases b1 <;> cases b2 <;> cases b3 <;> cases b4 <;> simp at c1 ⊢
    · rw [Bool.not_eq_true] at c0
      rw [c0]
      generalize dsB [] (l0.map (·.f0)) = b1 at *
      generalize inB [] l0 = b2 at *
      cases b1 <;> cases b2 <;> simp at c0 ⊢
  show (if _ = true then (0 : Int) else 8) = _
  rw [key]
end Go.Proofs.Ytgnklkmifcmlhaa.Q
/- Proved here: the reference's CheckSyntax answers as the program's. Conditions: those that each theorem names. -/
namespace Go.Proofs.Ytgnklkmifcmlhaa.Q
open Go.RowKit Go.Shelf Go.Proofs.YtgnklkmifcmlhaaW.PrintWords Go.Proofs.YtgnklkmifcmlhaaW.PrintMore
set_option linter.unusedVariables false
set_option linter.unusedSimpArgs false

theorem rdI (l : List S119) (j : Nat) (h : j < l.length) : rd_T119 l (j : Int) = l[j] := by
  unfold rd_T119
  simp only [Int.toNat_natCast]
  rw [List.getD_eq_getElem?_getD, List.getElem?_eq_getElem h]
  rfl
theorem rdP (l : List S122) (j : Nat) (h : j < l.length) : rd_T122 l (j : Int) = l[j] := by
  unfold rd_T122
  simp only [Int.toNat_natCast]
  rw [List.getD_eq_getElem?_getD, List.getElem?_eq_getElem h]
  rfl
theorem rdO (l : List S111) (j : Nat) (h : j < l.length) : rd_T111 l (j : Int) = l[j] := by
  unfold rd_T111
  simp only [Int.toNat_natCast]
  rw [List.getD_eq_getElem?_getD, List.getElem?_eq_getElem h]
  rfl
/-! ### The names -/
theorem ops_ev (l0 : List S119) (l1 : List S122) (l2 : List ByteArray) (l3 : List S111) (h : l0.length + l1.length + l2.length ≤ 300) : Ev (fun k => sequentref14_Operators.f k l0 l1 l2 l3) (opsL l0 l1 l2) := by
  have g1 := down (fun j => ∀ s : List ByteArray, s.length + (l1.length - j) + l2.length ≤ 300 → Ev (fun k => sequentref14_Operators.l1 k s (j : Int) l0 l1 l2 l3) ((s ++ (l1.drop j).map (·.f0)) ++ l2)) l1.length
    (fun s hs => by
      refine Ev.succ ?_
      simp only [sequentref14_Operators.l1]
      exact Ev.neg (by omega) (Ev.pos (by omega) ((Ev.pure _).val (by simp))))
    (fun j hj ih s hs => by
      refine Ev.succ ?_
      simp only [sequentref14_Operators.l1]
      refine Ev.pos (by omega) (Ev.pos (by omega) (Ev.pos (by omega) ?_))
      rw [rdP l1 j hj, w64s (by omega), List.drop_eq_getElem_cons hj]
      exact (ih (s ++ [l1[j].f0]) (by simp; omega)).val (by rw [List.map_cons]; simp only [List.append_assoc, List.cons_append, List.nil_append]))
  have g0 := down (fun j => ∀ s : List ByteArray, s.length + (l0.length - j) + l1.length + l2.length ≤ 300 → Ev (fun k => sequentref14_Operators.l0 k s (j : Int) l0 l1 l2 l3) (((s ++ (l0.drop j).map (·.f0)) ++ l1.map (·.f0)) ++ l2)) l0.length
    (fun s hs => by
      refine Ev.succ ?_
      simp only [sequentref14_Operators.l0]
      exact Ev.neg (by omega) ((g1 s (by omega)).val (by simp)))
    (fun j hj ih s hs => by
      refine Ev.succ ?_
      simp only [sequentref14_Operators.l0]
      refine Ev.pos (by omega) (Ev.pos (by omega) (Ev.pos (by omega) ?_))
      rw [rdI l0 j hj, w64s (by omega), List.drop_eq_getElem_cons hj]
      exact (ih (s ++ [l0[j].f0]) (by simp; omega)).val (by rw [List.map_cons]; simp only [List.append_assoc, List.cons_append, List.nil_append]))
  simp only [sequentref14_Operators.f]
  exact (g0 [] (by simp; omega)).val (by simp [opsL])
theorem ovs_ev (l0 : List S119) (l1 : List S122) (l2 : List ByteArray) (l3 : List S111) (h : l3.length ≤ 300) : Ev (fun k => sequentref14_Overloads.f k l0 l1 l2 l3) (l3.map (·.f0)) := by
  have g0 := down (fun j => ∀ s : List ByteArray, s.length + (l3.length - j) ≤ 300 → Ev (fun k => sequentref14_Overloads.l0 k s (j : Int) l0 l1 l2 l3) (s ++ (l3.drop j).map (·.f0))) l3.length
    (fun s hs => by
      refine Ev.succ ?_
      simp only [sequentref14_Overloads.l0]
      exact Ev.neg (by omega) ((Ev.pure _).val (by simp)))
    (fun j hj ih s hs => by
      refine Ev.succ ?_
      simp only [sequentref14_Overloads.l0]
      refine Ev.pos (by omega) (Ev.pos (by omega) (Ev.pos (by omega) ?_))
      rw [rdO l3 j hj, w64s (by omega), List.drop_eq_getElem_cons hj]
      exact (ih (s ++ [l3[j].f0]) (by simp; omega)).val (by rw [List.map_cons]; simp only [List.append_assoc, List.cons_append, List.nil_append]))
  simp only [sequentref14_Overloads.f]
  exact (g0 [] (by simp; omega)).val (by simp)
theorem distinct_ev (l : List ByteArray) (hl : l.length ≤ 4611686018427387904) (hn : ∀ a, a ∈ l → okS a) : Ev (fun k => sequentref14_distinct.f k l) (dsB [] l) := by
  simp only [sequentref14_distinct.f]
  refine Ev.val (down (fun j => Ev (fun k => sequentref14_distinct.l0 k l (j : Int)) (dsB (l.take j) (l.drop j))) l.length ?_ ?_) (by simp)
  · refine Ev.succ ?_
    simp only [sequentref14_distinct.l0]
    exact Ev.neg (by omega) ((Ev.pure _).val (by simp [dsB]))
  · intro j hj ih
    refine Ev.succ ?_
    simp only [sequentref14_distinct.l0]
    refine Ev.pos (by omega) (Ev.pos (by omega) ?_)
    rw [rdS l j hj, List.drop_eq_getElem_cons hj]
    refine Ev.bind (rname_ev l[j] (hn _ (List.getElem_mem hj))) (Ev.ite (fun e => ?_) (fun e => (Ev.pure _).val ?_))
    · refine Ev.ite (fun e2 => (Ev.pure _).val ?_) (fun e2 => Ev.pos (by omega) ?_)
      · simp [dsB, nv, e2]
      · rw [show ((j : Int)).toNat = j from Int.toNat_natCast j]
        have hv : nv l[j] = true := by simp [nv, e, e2]
        refine Ev.bind (in_ev (l.take j) l[j] (by rw [List.length_take]; omega)) (Ev.ite (fun e3 => (Ev.pure _).val ?_) (fun e3 => ?_))
        · simp [dsB, e3]
        · rw [w64s (by omega)]
          rw [Bool.not_eq_true] at e3
          refine ih.val ?_
          rw [dsB, hv, e3, ← List.take_succ_eq_append_getElem hj]
          rfl
    · simp [dsB, nv, e]

/-! ### The tests of the reference -/
def hit (p : Int) (r : Bool) (b : S119) : Bool := b.f1 == p && b.f2 != r
def rfB : List S119 → List S119 → Bool
  | _, [] => true
  | P, a :: l => (rgB a.f1 && P.all (fun b => !hit a.f1 a.f2 b)) && rfB (P ++ [a]) l
def pfB (l0 : List S119) : List S122 → Bool
  | [] => true
  | a :: l => (rgB a.f1 && l0.all (fun b => !(b.f1 == a.f1))) && pfB l0 l
theorem rg_lo {p : Int} (h : p < 1) : rgB p = false := by unfold rgB; rw [decide_eq_false (by omega)]; rfl
theorem rg_hi {p : Int} (h : p > 99) : rgB p = false := by unfold rgB; rw [decide_eq_false (p := p ≤ 99) (by omega), Bool.and_false]
theorem rg_ok {p : Int} (h : ¬ p < 1) (h2 : ¬ p > 99) : rgB p = true := by unfold rgB; rw [decide_eq_true (by omega), decide_eq_true (by omega)]; rfl
section
variable (l0 : List S119) (l1 : List S122) (l2 : List ByteArray) (l3 : List S111)
theorem l5_ev (i : Nat) (m : List ByteArray) (hm : m.length ≤ 4611686018427387904) (hn : ∀ a, a ∈ m → okS a) (hi : i ≤ 1000) (R : Bool) (hR : Ev (fun k => sequentref14_Valid.l4 k ((i + 1 : Nat) : Int) l0 l1 l2 l3) R) :
    Ev (fun k => sequentref14_Valid.l5 k (i : Int) m 0 l0 l1 l2 l3) (cnsB m && R) := by
  refine Ev.val (down (fun j => Ev (fun k => sequentref14_Valid.l5 k (i : Int) m (j : Int) l0 l1 l2 l3) (cnsB (m.drop j) && R)) m.length ?_ ?_) (by simp)
  · refine Ev.succ ?_
    simp only [sequentref14_Valid.l5]
    refine Ev.neg (by omega) ?_
    rw [w64s (by omega)]
    exact hR.val (by simp [cnsB])
  · intro j hj ih
    refine Ev.succ ?_
    simp only [sequentref14_Valid.l5]
    refine Ev.pos (by omega) (Ev.pos (by omega) ?_)
    rw [rdS m j hj, List.drop_eq_getElem_cons hj]
    refine Ev.bind (rname_ev m[j] (hn _ (List.getElem_mem hj))) (Ev.ite (fun e => Ev.ite (fun e2 => (Ev.pure _).val ?_) (fun e2 => ?_)) (fun e => (Ev.pure _).val ?_))
    · simp [cnsB, nv, e2]
    · rw [w64s (by omega)]
      have e2' : (m[j].toList == [124, 45]) = false := beq_eq_false_iff_ne.2 e2
      exact ih.val (by simp [cnsB, nv, e, e2'])
    · simp [cnsB, nv, e]
theorem l4_ev (h3 : l3.length ≤ 300) (hn : ∀ a, a ∈ l3 → a.f1.length ≤ 4611686018427387904 ∧ ∀ x, x ∈ a.f1 → okS x) : Ev (fun k => sequentref14_Valid.l4 k 0 l0 l1 l2 l3) (ovB l3) := by
  refine Ev.val (down (fun j => Ev (fun k => sequentref14_Valid.l4 k (j : Int) l0 l1 l2 l3) (ovB (l3.drop j))) l3.length ?_ ?_) (by simp)
  · refine Ev.succ ?_
    simp only [sequentref14_Valid.l4]
    exact Ev.neg (by omega) ((Ev.pure _).val (by simp [ovB]))
  · intro j hj ih
    have hj9 : ∀ b : Bool, Ev (fun k => sequentref14_Valid.j9 k (j : Int) l3[j].f1 b l0 l1 l2 l3) (!b && (cnsB l3[j].f1 && ovB (l3.drop (j + 1)))) := fun b => by
      refine Ev.succ ?_
      simp only [sequentref14_Valid.j9]
      cases b with
      | true => exact Ev.pos rfl ((Ev.pure _).val rfl)
      | false => exact Ev.neg (by simp) ((l5_ev l0 l1 l2 l3 j l3[j].f1 (hn _ (List.getElem_mem hj)).1 (hn _ (List.getElem_mem hj)).2 (by omega) _ ih).val (by simp))
    refine Ev.succ ?_
    simp only [sequentref14_Valid.l4]
    refine Ev.pos (by omega) (Ev.pos (by omega) ?_)
    rw [rdO l3 j hj, List.drop_eq_getElem_cons hj]
    refine Ev.ite (fun e => (hj9 _).val ?_) (fun e => (hj9 _).val ?_)
    · simp only [ovB]
      rw [decide_eq_false (p := 1 ≤ l3[j].f1.length) (by omega)]
      simp
    · simp only [ovB]
      rw [decide_eq_true (p := 1 ≤ l3[j].f1.length) (by omega), show decide ((l3[j].f1.length : Int) > 8) = !decide (l3[j].f1.length ≤ 8) by rw [Bool.eq_iff_iff]; simp; omega]
      simp [Bool.and_assoc]
theorem l3_ev (i : Nat) (hi : i < l1.length) (hi3 : i ≤ 1000) (h0 : l0.length ≤ 300) (R : Bool) (hR : Ev (fun k => sequentref14_Valid.l2 k ((i + 1 : Nat) : Int) l0 l1 l2 l3) R) :
    Ev (fun k => sequentref14_Valid.l3 k (i : Int) 0 l0 l1 l2 l3) (l0.all (fun b => !(b.f1 == l1[i].f1)) && R) := by
  refine Ev.val (down (fun j => Ev (fun k => sequentref14_Valid.l3 k (i : Int) (j : Int) l0 l1 l2 l3) ((l0.drop j).all (fun b => !(b.f1 == l1[i].f1)) && R)) l0.length ?_ ?_) (by simp)
  · refine Ev.succ ?_
    simp only [sequentref14_Valid.l3]
    refine Ev.neg (by omega) ?_
    rw [w64s (by omega)]
    exact hR.val (by simp)
  · intro j hj ih
    refine Ev.succ ?_
    simp only [sequentref14_Valid.l3]
    refine Ev.pos (by omega) (Ev.pos (by omega) (Ev.pos (by omega) (Ev.pos (by omega) ?_)))
    rw [rdI l0 j hj, rdP l1 i hi, List.drop_eq_getElem_cons hj]
    refine Ev.ite (fun e => (Ev.pure _).val ?_) (fun e => ?_)
    · simp only [List.all_cons]
      rw [beq_iff_eq.2 e]
      rfl
    · rw [w64s (by omega)]
      refine ih.val ?_
      simp only [List.all_cons]
      rw [beq_eq_false_iff_ne.2 e]
      rfl
theorem l2_ev (h0 : l0.length ≤ 300) (h1 : l1.length ≤ 300) (R : Bool) (hR : Ev (fun k => sequentref14_Valid.l4 k 0 l0 l1 l2 l3) R) : Ev (fun k => sequentref14_Valid.l2 k 0 l0 l1 l2 l3) (pfB l0 l1 && R) := by
  refine Ev.val (down (fun j => Ev (fun k => sequentref14_Valid.l2 k (j : Int) l0 l1 l2 l3) (pfB l0 (l1.drop j) && R)) l1.length ?_ ?_) (by simp)
  · refine Ev.succ ?_
    simp only [sequentref14_Valid.l2]
    exact Ev.neg (by omega) (hR.val (by simp [pfB]))
  · intro j hj ih
    have hj6 : ∀ b : Bool, Ev (fun k => sequentref14_Valid.j6 k (j : Int) b l0 l1 l2 l3) (!b && (l0.all (fun b => !(b.f1 == l1[j].f1)) && (pfB l0 (l1.drop (j + 1)) && R))) := fun b => by
      refine Ev.succ ?_
      simp only [sequentref14_Valid.j6]
      cases b with
      | true => exact Ev.pos rfl ((Ev.pure _).val rfl)
      | false => exact Ev.neg (by simp) ((l3_ev l0 l1 l2 l3 j hj (by omega) h0 _ ih).val (by simp))
    refine Ev.succ ?_
    simp only [sequentref14_Valid.l2]
    refine Ev.pos (by omega) (Ev.pos (by omega) ?_)
    rw [rdP l1 j hj, List.drop_eq_getElem_cons hj]
    refine Ev.ite (fun e => (hj6 _).val ?_) (fun e => (hj6 _).val ?_)
    · simp only [pfB]
      rw [rg_lo e]
      simp
    · simp only [pfB]
      by_cases e2 : l1[j].f1 > 99
      · rw [decide_eq_true e2, rg_hi e2]
        simp
      · rw [decide_eq_false e2, rg_ok e e2]
        simp [Bool.and_assoc]
theorem l1_ev (i : Nat) (hi : i < l0.length) (hi3 : i ≤ 1000) (n : ByteArray) (p : Int) (r : Bool) (R : Bool) (hR : Ev (fun k => sequentref14_Valid.l0 k ((i + 1 : Nat) : Int) l0 l1 l2 l3) R) :
    Ev (fun k => sequentref14_Valid.l1 k (i : Int) 0 l0 l1 l2 l3 n p r) ((l0.take i).all (fun b => !hit p r b) && R) := by
  refine Ev.val (down (fun j => j ≤ i → Ev (fun k => sequentref14_Valid.l1 k (i : Int) (j : Int) l0 l1 l2 l3 n p r) (((l0.take i).drop j).all (fun b => !hit p r b) && R)) i ?_ ?_ (by omega)) (by simp)
  · intro _
    refine Ev.succ ?_
    simp only [sequentref14_Valid.l1]
    refine Ev.neg (by omega) ?_
    rw [w64s (by omega)]
    exact hR.val (by simp)
  · intro j hj ih _
    have hjl : j < (l0.take i).length := by rw [List.length_take]; omega
    refine Ev.succ ?_
    simp only [sequentref14_Valid.l1]
    refine Ev.pos (by omega) (Ev.pos (by omega) (Ev.pos (by omega) ?_))
    rw [rdI l0 j (by omega), List.drop_eq_getElem_cons hjl, List.all_cons, List.getElem_take, w64s (by omega)]
    refine Ev.ite (fun e => Ev.ite (fun e2 => (Ev.pure _).val ?_) (fun e2 => (ih (by omega)).val ?_)) (fun e => (ih (by omega)).val ?_)
    · simp only [hit]
      rw [e, e2]
      simp
    · simp only [hit]
      rw [Bool.not_eq_true] at e2
      rw [e2]
      simp
    · simp only [hit]
      rw [beq_eq_false_iff_ne.2 e]
      simp
theorem l0_ev (h0 : l0.length ≤ 300) (R : Bool) (hR : Ev (fun k => sequentref14_Valid.l2 k 0 l0 l1 l2 l3) R) : Ev (fun k => sequentref14_Valid.l0 k 0 l0 l1 l2 l3) (rfB [] l0 && R) := by
  refine Ev.val (down (fun j => Ev (fun k => sequentref14_Valid.l0 k (j : Int) l0 l1 l2 l3) (rfB (l0.take j) (l0.drop j) && R)) l0.length ?_ ?_) (by simp)
  · refine Ev.succ ?_
    simp only [sequentref14_Valid.l0]
    exact Ev.neg (by omega) (hR.val (by simp [rfB]))
  · intro j hj ih
    have hj3 : ∀ (b : Bool) (n : ByteArray), Ev (fun k => sequentref14_Valid.j3 k (j : Int) b l0 l1 l2 l3 n l0[j].f1 l0[j].f2) (!b && ((l0.take j).all (fun b => !hit l0[j].f1 l0[j].f2 b) && (rfB (l0.take (j + 1)) (l0.drop (j + 1)) && R))) := fun b n => by
      refine Ev.succ ?_
      simp only [sequentref14_Valid.j3]
      cases b with
      | true => exact Ev.pos rfl ((Ev.pure _).val rfl)
      | false => exact Ev.neg (by simp) ((l1_ev l0 l1 l2 l3 j hj (by omega) n _ _ _ ih).val (by simp))
    refine Ev.succ ?_
    simp only [sequentref14_Valid.l0]
    refine Ev.pos (by omega) (Ev.pos (by omega) ?_)
    rw [rdI l0 j hj, List.drop_eq_getElem_cons hj]
    refine Ev.ite (fun e => (hj3 _ _).val ?_) (fun e => (hj3 _ _).val ?_)
    · simp only [rfB]
      rw [rg_lo e]
      simp
    · simp only [rfB]
      rw [List.take_succ_eq_append_getElem hj]
      by_cases e2 : l0[j].f1 > 99
      · rw [decide_eq_true e2, rg_hi e2]
        simp
      · rw [decide_eq_false e2, rg_ok e e2]
        simp [Bool.and_assoc]
end
/-! ### The two tests of the infixes are one -/
def Inv (P : List S119) (d : List (Int × Bool)) : Prop := (∀ p, (lookI p d).isSome = true ↔ ∃ b, b ∈ P ∧ b.f1 = p) ∧ ∀ p v, lookI p d = some v → ∃ b, b ∈ P ∧ b.f1 = p ∧ b.f2 = v
theorem Inv.snoc {P : List S119} {d : List (Int × Bool)} (h : Inv P d) (a : S119) : Inv (P ++ [a]) (putI a.f1 a.f2 d) := by
  refine ⟨fun p => ?_, fun p v hv => ?_⟩
  · rw [lookI_put]
    by_cases hp : p = a.f1
    · rw [if_pos hp]
      exact ⟨fun _ => ⟨a, by simp, hp.symm⟩, fun _ => rfl⟩
    · rw [if_neg hp, h.1]
      constructor
      · rintro ⟨b, hb, e⟩
        exact ⟨b, by simp [hb], e⟩
      · rintro ⟨b, hb, e⟩
        rcases List.mem_append.1 hb with hb | hb
        · exact ⟨b, hb, e⟩
        · rw [List.mem_singleton] at hb
          subst hb
          exact absurd e.symm hp
  · rw [lookI_put] at hv
    by_cases hp : p = a.f1
    · rw [if_pos hp] at hv
      exact ⟨a, by simp, hp.symm, Option.some.inj hv⟩
    · rw [if_neg hp] at hv
      obtain ⟨b, hb, e⟩ := h.2 p v hv
      exact ⟨b, by simp [hb], e⟩
def Cons (P : List S119) : Prop := ∀ b c, b ∈ P → c ∈ P → b.f1 = c.f1 → b.f2 = c.f2
theorem side_eq {P : List S119} {d : List (Int × Bool)} (h : Inv P d) (hc : Cons P) (p : Int) (r : Bool) : sideOk d p r = P.all (fun b => !hit p r b) := by
  rw [Bool.eq_iff_iff, List.all_eq_true]
  unfold sideOk
  cases hl : lookI p d with
  | none =>
    simp only [Option.isSome_none, Bool.not_false, Bool.true_or, true_iff]
    intro b hb
    have hne : ¬ b.f1 = p := fun e => by
      have := (h.1 p).2 ⟨b, hb, e⟩
      rw [hl] at this
      cases this
    simp [hit, hne]
  | some v =>
    obtain ⟨c, hcm, e1, e2⟩ := h.2 p v hl
    simp only [Option.isSome_some, Bool.not_true, Bool.false_or, Option.getD_some, beq_iff_eq]
    constructor
    · rintro rfl b hb
      by_cases e : b.f1 = p
      · have := hc b c hb hcm (e.trans e1.symm)
        simp [hit, this, e2]
      · simp [hit, e]
    · intro hall
      have := hall c hcm
      simp only [hit, e1, e2, beq_self_eq_true, Bool.true_and] at this
      cases v <;> cases r <;> simp_all
theorem Cons.snoc {P : List S119} (hc : Cons P) (a : S119) (h : P.all (fun b => !hit a.f1 a.f2 b) = true) : Cons (P ++ [a]) := by
  have key : ∀ b, b ∈ P → b.f1 = a.f1 → b.f2 = a.f2 := by
    intro b hb e
    have := List.all_eq_true.1 h b hb
    simp only [hit, e, beq_self_eq_true, Bool.true_and] at this
    simpa using this
  intro b c hb hc' e
  rcases List.mem_append.1 hb with g | g <;> rcases List.mem_append.1 hc' with g' | g'
  · exact hc b c g g' e
  · rw [List.mem_singleton] at g'
    rw [g'] at e ⊢
    exact key b g e
  · rw [List.mem_singleton] at g
    rw [g] at e ⊢
    exact (key c g' e.symm).symm
  · rw [List.mem_singleton] at g g'
    rw [g, g']
theorem inB_rfB : ∀ (l P : List S119) (d : List (Int × Bool)), Inv P d → Cons P → inB d l = rfB P l
  | [], _, _, _, _ => rfl
  | a :: l, P, d, h, hc => by
    rw [inB, rfB, side_eq h hc]
    cases hq : P.all (fun b => !hit a.f1 a.f2 b) with
    | false => simp
    | true => rw [inB_rfB l (P ++ [a]) _ (h.snoc a) (hc.snoc a hq)]
theorem Inv.all : ∀ (l P : List S119) (d : List (Int × Bool)), Inv P d → Inv (P ++ l) (sdA d l)
  | [], P, d, h => by simpa [sdA] using h
  | a :: l, P, d, h => by
    have := Inv.all l (P ++ [a]) _ (h.snoc a)
    rw [List.append_assoc] at this
    exact this
theorem Inv.nil : Inv [] [] := ⟨fun p => by simp [lookI], fun p v h => by simp [lookI] at h⟩
theorem prB_pfB (l0 : List S119) (d : List (Int × Bool)) (h : Inv l0 d) : ∀ l, prB d l = pfB l0 l
  | [] => rfl
  | a :: l => by
    rw [prB, pfB, prB_pfB l0 d h l]
    congr 2
    rw [Bool.eq_iff_iff, List.all_eq_true, Bool.not_eq_true', ← Bool.not_eq_true, h.1]
    constructor
    · intro hn b hb
      have : ¬ b.f1 = a.f1 := fun e => hn ⟨b, hb, e⟩
      simp [this]
    · rintro hall ⟨b, hb, e⟩
      have := hall b hb
      simp [e] at this
theorem valid14_ev (l0 : List S119) (l1 : List S122) (l2 : List ByteArray) (l3 : List S111) (h : l0.length + l1.length + l2.length + l3.length ≤ 300)
    (h0 : ∀ a, a ∈ l0 → okS a.f0) (h1 : ∀ a, a ∈ l1 → okS a.f0) (h2 : ∀ a, a ∈ l2 → okS a) (h3 : ∀ a, a ∈ l3 → okS a.f0 ∧ a.f1.length ≤ 4611686018427387904 ∧ ∀ x, x ∈ a.f1 → okS x) :
    Ev (fun k => sequentref14_Valid.f k l0 l1 l2 l3) (if (64 < l0.length ∨ 64 < l1.length ∨ 64 < l2.length ∨ 64 < l3.length) then false else synB l0 l1 l2 l3) := by
  have hops : ∀ a, a ∈ opsL l0 l1 l2 → okS a := by
    intro a ha
    rcases List.mem_append.1 ha with ha | ha
    · rcases List.mem_append.1 ha with ha | ha
      · obtain ⟨b, hb, rfl⟩ := List.mem_map.1 ha
        exact h0 b hb
      · obtain ⟨b, hb, rfl⟩ := List.mem_map.1 ha
        exact h1 b hb
    · exact h2 a ha
  have hovs : ∀ a, a ∈ l3.map (·.f0) → okS a := by
    intro a ha
    obtain ⟨b, hb, rfl⟩ := List.mem_map.1 ha
    exact (h3 b hb).1
  have g4 := l4_ev l0 l1 l2 l3 (by omega) (fun a ha => (h3 a ha).2)
  have g2 := l2_ev l0 l1 l2 l3 (by omega) (by omega) _ g4
  have g0 := l0_ev l0 l1 l2 l3 (by omega) _ g2
  have gj1 : ∀ b : Bool, Ev (fun k => sequentref14_Valid.j1 k b l0 l1 l2 l3) (!b && (rfB [] l0 && (pfB l0 l1 && ovB l3))) := fun b => by
    refine Ev.succ ?_
    simp only [sequentref14_Valid.j1]
    cases b with
    | true => exact Ev.pos rfl ((Ev.pure _).val rfl)
    | false => exact Ev.neg (by simp) (g0.val (by simp))
  have hin : inB [] l0 = rfB [] l0 := inB_rfB l0 [] [] Inv.nil (fun b c hb => by simp at hb)
  have hpr : prB (sdA [] l0) l1 = pfB l0 l1 := prB_pfB l0 _ (by simpa using Inv.all l0 [] [] Inv.nil) l1
  have gj0 : ∀ b : Bool, Ev (fun k => sequentref14_Valid.j0 k b l0 l1 l2 l3) (!b && synB l0 l1 l2 l3) := fun b => by
    refine Ev.succ ?_
    simp only [sequentref14_Valid.j0]
    cases b with
    | true => exact Ev.pos rfl ((Ev.pure _).val rfl)
    | false =>
      refine Ev.neg (by simp) (Ev.bind (ops_ev l0 l1 l2 l3 (by omega)) (Ev.bind (distinct_ev _ (by simp [opsL]; omega) hops) (Ev.ite (fun e => Ev.bind (ovs_ev l0 l1 l2 l3 (by omega)) (Ev.bind (distinct_ev _ (by simp; omega) hovs) ((gj1 _).val ?_))) (fun e => (gj1 _).val ?_))))
      · unfold synB
        rw [hin, hpr, e]
        cases dsB [] (l3.map (·.f0)) <;> cases rfB [] l0 <;> cases pfB l0 l1 <;> rfl
      · unfold synB
        rw [Bool.not_eq_true] at e
        rw [e]
        rfl
  simp only [sequentref14_Valid.f]
  refine Ev.ite (fun e => (gj0 _).val ?_) (fun e => Ev.ite (fun e1 => (gj0 _).val ?_) (fun e1 => Ev.ite (fun e2 => (gj0 _).val ?_) (fun e2 => (gj0 _).val ?_)))
  · rw [if_pos (by omega)]; rfl
  · rw [if_pos (by omega)]; rfl
  · rw [if_pos (by omega)]; rfl
  · by_cases e3 : 64 < l3.length
    · rw [if_pos (by omega), decide_eq_true (by omega)]
      rfl
    · rw [if_neg (by omega), decide_eq_false (by omega)]
      rfl
theorem refcs_ev (l0 : List S119) (l1 : List S122) (l2 : List ByteArray) (l3 : List S111) (h : l0.length + l1.length + l2.length + l3.length ≤ 300)
    (h0 : ∀ a, a ∈ l0 → okS a.f0) (h1 : ∀ a, a ∈ l1 → okS a.f0) (h2 : ∀ a, a ∈ l2 → okS a) (h3 : ∀ a, a ∈ l3 → okS a.f0 ∧ a.f1.length ≤ 4611686018427387904 ∧ ∀ x, x ∈ a.f1 → okS x) :
    Ev (fun k => sequentref14_CheckSyntax.f k l0 l1 l2 l3) (if (64 < l0.length ∨ 64 < l1.length ∨ 64 < l2.length ∨ 64 < l3.length) then 8 else if synB l0 l1 l2 l3 = true then 0 else 8) := by
  simp only [sequentref14_CheckSyntax.f]
  refine Ev.bind (valid14_ev l0 l1 l2 l3 h h0 h1 h2 h3) ?_
  by_cases e : 64 < l0.length ∨ 64 < l1.length ∨ 64 < l2.length ∨ 64 < l3.length
  · rw [if_pos e, if_pos e]
    exact Ev.neg (by simp) (Ev.pure _)
  · rw [if_neg e, if_neg e]
    exact Ev.ite (fun e => (Ev.pure _).val (by rw [if_pos e])) (fun e => (Ev.pure _).val (by rw [if_neg e]))

/-! ### Is the syntax great? -/
def gsB (l0 : List S119) (l1 : List S122) (l2 : List ByteArray) (l3 : List S111) : Bool :=
  decide (300 < l0.length + l1.length + l2.length + l3.length) || (l3.any (fun o => decide (100 < o.f1.length)) || (((opsL l0 l1 l2 ++ l3.map (·.f0)) ++ l3.flatMap (·.f1)).any (fun n => decide (1000 < n.size))))
theorem gl1_ev (m : List ByteArray) (hm : m.length ≤ 4611686018427387904) : Ev (fun k => sequentref14_GreatSyntax.l1 k m 0) (m.any (fun n => decide (1000 < n.size))) := by
  refine Ev.val (down (fun j => Ev (fun k => sequentref14_GreatSyntax.l1 k m (j : Int)) ((m.drop j).any (fun n => decide (1000 < n.size)))) m.length ?_ ?_) (by simp)
  · refine Ev.succ ?_
    simp only [sequentref14_GreatSyntax.l1]
    exact Ev.neg (by omega) ((Ev.pure _).val (by simp))
  · intro j hj ih
    refine Ev.succ ?_
    simp only [sequentref14_GreatSyntax.l1]
    refine Ev.pos (by omega) (Ev.pos (by omega) ?_)
    rw [rdS m j hj, List.drop_eq_getElem_cons hj, w64s (by omega), List.any_cons]
    refine Ev.ite (fun e => (Ev.pure _).val ?_) (fun e => ih.val ?_)
    · rw [decide_eq_true (by omega), Bool.true_or]
    · rw [decide_eq_false (by omega), Bool.false_or]
theorem gs_ev (l0 : List S119) (l1 : List S122) (l2 : List ByteArray) (l3 : List S111) (h0 : l0.length ≤ 1152921504606846976) (h1 : l1.length ≤ 1152921504606846976) (h2 : l2.length ≤ 1152921504606846976) (h3 : l3.length ≤ 1152921504606846976) :
    Ev (fun k => sequentref14_GreatSyntax.f k l0 l1 l2 l3) (gsB l0 l1 l2 l3) := by
  have g0 := fun (h : l3.length ≤ 300) => down (fun j => ∀ s : List ByteArray, s.length + (l3.length - j) * 100 ≤ 100000 → Ev (fun k => sequentref14_GreatSyntax.l0 k s (j : Int) l0 l1 l2 l3) ((l3.drop j).any (fun o => decide (100 < o.f1.length)) || (s ++ (l3.drop j).flatMap (·.f1)).any (fun n => decide (1000 < n.size)))) l3.length
    (fun s hs => by
      refine Ev.succ ?_
      simp only [sequentref14_GreatSyntax.l0]
      exact Ev.neg (by omega) ((gl1_ev s (by omega)).val (by simp)))
    (fun j hj ih s hs => by
      refine Ev.succ ?_
      simp only [sequentref14_GreatSyntax.l0]
      refine Ev.pos (by omega) (Ev.pos (by omega) ?_)
      rw [rdO l3 j hj, List.drop_eq_getElem_cons hj, w64s (by omega), List.any_cons]
      refine Ev.ite (fun e => (Ev.pure _).val ?_) (fun e => Ev.pos (by omega) ((ih (s ++ l3[j].f1) (by rw [List.length_append]; omega)).val ?_))
      · rw [decide_eq_true (by omega), Bool.true_or, Bool.true_or]
      · rw [decide_eq_false (by omega), Bool.false_or, List.flatMap_cons, List.append_assoc])
  simp only [sequentref14_GreatSyntax.f]
  rw [w64 (x := (l0.length : Int) + (l1.length : Int)) (by omega) (by omega), w64 (x := (l0.length : Int) + (l1.length : Int) + (l2.length : Int)) (by omega) (by omega), w64 (x := (l0.length : Int) + (l1.length : Int) + (l2.length : Int) + (l3.length : Int)) (by omega) (by omega)]
  unfold gsB
  refine Ev.ite (fun e => (Ev.pure _).val ?_) (fun e => Ev.bind (ops_ev l0 l1 l2 l3 (by omega)) (Ev.bind (ovs_ev l0 l1 l2 l3 (by omega)) (Ev.pos (by simp [opsL]; omega) ((g0 (by omega) (opsL l0 l1 l2 ++ l3.map (·.f0)) (by simp [opsL]; omega)).val ?_))))
  · rw [decide_eq_true (by omega), Bool.true_or]
  · rw [decide_eq_false (by omega), Bool.false_or, List.drop_zero]
end Go.Proofs.Ytgnklkmifcmlhaa.Q
