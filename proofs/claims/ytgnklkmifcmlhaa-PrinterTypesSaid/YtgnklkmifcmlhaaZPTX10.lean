/- Proved here: parts of the proof of a given statement (HRowPrinterTypes): contracts of the functions that it reaches, what they answer, and in the last text the statement itself. Conditions: those that each theorem names. -/
import Derived.Test.YtgnklkmifcmlhaaZPTX7
import Derived.Test.YtgnklkmifcmlhaaZPTX6
import Derived.Test.YtgnklkmifcmlhaaZPTX9
import Derived.Test.YtgnklkmifcmlhaaZPTX8
import Derived.Test.YtgnklkmifcmlhaaZPTX3
/- Proved here: what the reference's DestFun, Fun, Bool and Vars answer, over trees that are read. Conditions: those that each theorem names. -/
namespace Go.Proofs.Ytgnklkmifcmlhaa.Q
open Go.RowKit Go.Shelf Go.Proofs.YtgnklkmifcmlhaaW.PrintWords Go.Proofs.YtgnklkmifcmlhaaW.PrintMore
set_option linter.unusedVariables false
set_option linter.unusedSimpArgs false
attribute [local go_sem] Oper.semAt_some

theorem funN_list : funN.toList = [102, 117, 110] := by rw [Go.ByteArray.toList_eq]; rfl
theorem refdest_ev (t : S25) (hs : szT t < 2932031007402) : Ev (fun k => sequentref01_DestFun.f k t.f0 t.f1 t.f2) ((destF t).1.f0, (destF t).1.f1, (destF t).1.f2, (destF t).2.1.f0, (destF t).2.1.f1, (destF t).2.1.f2, (destF t).2.2) := by
  simp only [sequentref01_DestFun.f]
  have hno : ∀ (h : ¬ (t.f0 = false ∧ t.f1 = funN ∧ t.f2.length = 2)), Ev (fun k => sequentref01_DestFun.j0 k true t.f0 t.f1 t.f2) ((destF t).1.f0, (destF t).1.f1, (destF t).1.f2, (destF t).2.1.f0, (destF t).2.1.f1, (destF t).2.1.f2, (destF t).2.2) := fun h => by
    refine Ev.succ ?_
    simp only [sequentref01_DestFun.j0]
    refine Ev.pos (by trivial) ((Ev.pure _).val ?_)
    unfold destF
    rw [if_neg h]
    rfl
  refine Ev.ite (fun e => hno (by rw [e]; simp)) (fun e => Ev.ite (fun e2 => ?_) (fun e2 => hno (fun h => e2 (by rw [h.2.1, funN_list]))))
  have h1 : t.f1 = funN := (bytes_toList _ _).1 (by rw [e2, funN_list])
  by_cases hl : t.f2.length = 2
  · rw [show ((t.f2.length : Int) != 2) = false from bne_eq_false_iff_eq.mpr (by omega)]
    refine Ev.succ ?_
    simp only [sequentref01_DestFun.j0]
    have hd : destF t = (t.f2[0], t.f2[1], true) := by
      unfold destF
      rw [if_pos ⟨by simpa using e, h1, hl⟩, List.getD_eq_getElem?_getD, List.getD_eq_getElem?_getD, List.getElem?_eq_getElem (by omega), List.getElem?_eq_getElem (by omega)]
      rfl
    have r0 := rdT t.f2 0 (by omega)
    have r1 := rdT t.f2 1 (by omega)
    have s0 := szL_mem t.f2 _ (List.getElem_mem (show 0 < t.f2.length by omega))
    have s1 := szL_mem t.f2 _ (List.getElem_mem (show 1 < t.f2.length by omega))
    have s2 := szT_eq' t
    rw [hd]
    refine Ev.neg (by simp) (Ev.pos (by omega) ?_)
    rw [show rd_T25 t.f2 0 = t.f2[0] from r0]
    refine Ev.bind (reftwin_ev t.f2[0] (by omega)) (Ev.pos (by omega) ?_)
    rw [show rd_T25 t.f2 1 = t.f2[1] from r1]
    exact Ev.bind (reftwin_ev t.f2[1] (by omega)) (Ev.pure _)
  · rw [show ((t.f2.length : Int) != 2) = true from bne_iff_ne.mpr (by omega)]
    exact hno (fun h => hl h.2.2)
end Go.Proofs.Ytgnklkmifcmlhaa.Q
/- Proved here: the text of a type, and that the reference's TypeText answers it. Conditions: those that each theorem names. -/
namespace Go.Proofs.Ytgnklkmifcmlhaa.Q
open Go.RowKit Go.Shelf Go.Proofs.YtgnklkmifcmlhaaW.PrintWords Go.Proofs.YtgnklkmifcmlhaaW.PrintMore
set_option linter.unusedVariables false
set_option linter.unusedSimpArgs false

def parB (a : ByteArray) : ByteArray := (⟨#[40]⟩ ++ a) ++ ⟨#[41]⟩
def quoB (a : ByteArray) : ByteArray := (⟨#[34]⟩ ++ a) ++ ⟨#[34]⟩
def arrB : ByteArray := ⟨#[32, 45, 62, 32]⟩
def qnB (n : ByteArray) : ByteArray := if n.toList = [45, 62] ∨ n.toList = [124, 45] then quoB n else n
def addA : ByteArray → List ByteArray → Bool → ByteArray
  | out, [], _ => out
  | out, x :: r, first => addA ((out ++ (if first = true then ⟨#[40]⟩ else ⟨#[44, 32]⟩)) ++ x) r false
def txN (n : ByteArray) (l : List S25) (ts : List ByteArray) : ByteArray :=
  if n = funN ∧ l.length = 2 then ((if (destF (l.getD 0 zT)).2.2 = true then parB (ts.getD 0 ⟨#[]⟩) else ts.getD 0 ⟨#[]⟩) ++ arrB) ++ ts.getD 1 ⟨#[]⟩
  else if 0 < l.length then addA (qnB n) ts true ++ ⟨#[41]⟩ else addA (qnB n) ts true
mutual
def txT : S25 → ByteArray
  | ⟨v, n, l⟩ => if v = true then n else txN n l (txL l)
def txL : List S25 → List ByteArray
  | [] => []
  | a :: l => txT a :: txL l
end
theorem txL_map : ∀ l, txL l = l.map txT
  | [] => rfl
  | a :: l => by simp [txL, txL_map l]
theorem txT_eq (t : S25) : txT t = if t.f0 = true then t.f1 else txN t.f1 t.f2 (t.f2.map txT) := by cases t; simp [txT, txL_map]
def sumB (l : List ByteArray) : Nat := (l.map ByteArray.size).sum
theorem addA_size : ∀ (ts : List ByteArray) (out : ByteArray) (f : Bool), (addA out ts f).size ≤ out.size + sumB ts + 2 * ts.length
  | [], out, f => by simp [addA, sumB]
  | x :: r, out, f => by
    have h := addA_size r ((out ++ (if f = true then ⟨#[40]⟩ else ⟨#[44, 32]⟩)) ++ x) false
    have h2 : ((if f = true then (⟨#[40]⟩ : ByteArray) else ⟨#[44, 32]⟩)).size ≤ 2 := by cases f <;> decide
    simp only [addA, sumB, List.map_cons, List.sum_cons, List.length_cons, ByteArray.size_append] at h ⊢
    omega
theorem sizes : (⟨#[40]⟩ : ByteArray).size = 1 ∧ (⟨#[41]⟩ : ByteArray).size = 1 ∧ (⟨#[34]⟩ : ByteArray).size = 1 ∧ (⟨#[44, 32]⟩ : ByteArray).size = 2 ∧ (⟨#[32, 45, 62, 32]⟩ : ByteArray).size = 4 ∧ (⟨#[]⟩ : ByteArray).size = 0 := ⟨rfl, rfl, rfl, rfl, rfl, rfl⟩
theorem qnB_size (n : ByteArray) : (qnB n).size ≤ n.size + 2 := by
  unfold qnB quoB
  obtain ⟨s1, s2, s3, _⟩ := sizes
  split
  · simp only [ByteArray.size_append]; omega
  · omega
def nm30 (t : S25) : Prop := allT (fun x => x.f1.size ≤ 30) t
theorem nm30_mem {t x : S25} (h : nm30 t) (hx : x ∈ t.f2) : nm30 x := (allL_mem _ _).1 ((allT_eq _ t).1 h).2 x hx
theorem txT_size (t : S25) : nm30 t → (txT t).size + 4 ≤ 40 * szT t := by
  induction t using S_ind with
  | _ t ih =>
    intro h
    have hn := ((allT_eq _ t).1 h).1
    have h2 := szT_eq' t
    have hsum : ∀ l : List S25, (∀ x, x ∈ l → (txT x).size + 4 ≤ 40 * szT x) → sumB (l.map txT) + 4 * l.length ≤ 40 * szL l := by
      intro l
      induction l with
      | nil => intro _; simp [sumB, szL]
      | cons a l ihl =>
        intro hl
        have e1 := hl a (List.mem_cons_self ..)
        have e2 := ihl (fun x hx => hl x (List.mem_cons_of_mem _ hx))
        simp only [sumB, List.map_cons, List.sum_cons, List.length_cons, szL] at e2 ⊢
        omega
    have hs := hsum t.f2 (fun x hx => ih x hx (nm30_mem h hx))
    obtain ⟨s1, s2, s3, s4, s5, s6⟩ := sizes
    rw [txT_eq]
    split
    · omega
    · unfold txN
      split
      · rename_i hf
        obtain ⟨x, y, hxy⟩ : ∃ x y, t.f2 = [x, y] := by
          match hq : t.f2, hf.2 with
          | [x, y], _ => exact ⟨x, y, rfl⟩
        have e1 := ih x (by rw [hxy]; simp) (nm30_mem h (by rw [hxy]; simp))
        have e2 := ih y (by rw [hxy]; simp) (nm30_mem h (by rw [hxy]; simp))
        rw [hxy] at h2 ⊢
        simp only [szL] at h2
        simp only [List.map_cons, List.map_nil, List.getD_cons_zero, List.getD_cons_succ, ByteArray.size_append, arrB]
        have e3 : (if (destF x).2.2 = true then parB (txT x) else txT x).size ≤ (txT x).size + 2 := by
          split
          · unfold parB; simp only [ByteArray.size_append]; omega
          · omega
        omega
      · have e1 := addA_size (t.f2.map txT) (qnB t.f1) true
        have e2 := qnB_size t.f1
        rw [List.length_map] at e1
        split
        · simp only [ByteArray.size_append]; omega
        · omega
end Go.Proofs.Ytgnklkmifcmlhaa.Q
/- Proved here: the contract of the reference's TypeText. Conditions: those that each theorem names. -/
namespace Go.Proofs.Ytgnklkmifcmlhaa.Q
open Go.RowKit Go.Shelf Go.Proofs.YtgnklkmifcmlhaaW.PrintWords Go.Proofs.YtgnklkmifcmlhaaW.PrintMore
set_option linter.unusedVariables false
set_option linter.unusedSimpArgs false
attribute [local go_sem] Oper.semAt_some

theorem refdest_tr (t : S25) (u : Value) (w : World) (hu : Tr w u t) (hs : szT t < 2932031007402) : Calls Try.prog 26 #[u] w fun e w' => ∃ A1 c1 A2 c2, e = .returned (.tuple #[.agg #[.bool (destF t).1.f0, .string (destF t).1.f1, .slice A1 (destF t).1.f2.length c1], .agg #[.bool (destF t).2.1.f0, .string (destF t).2.1.f1, .slice A2 (destF t).2.1.f2.length c2], .bool (destF t).2.2]) ∧
    (destF t).1.f2.length ≤ c1 ∧ k25.C w' A1 (destF t).1.f2.length (destF t).1.f2 ∧ (destF t).2.1.f2.length ≤ c2 ∧ k25.C w' A2 (destF t).2.1.f2.length (destF t).2.1.f2 ∧ Below w.heap.size w w' := by
  obtain ⟨A, c, rfl, hl, hC⟩ := hu
  obtain ⟨k, hk⟩ := (refdest_ev t hs).at
  refine (sequentref01_DestFun.calls k t.f0 t.f1 A c t.f2 _ _ _ _ _ _ _ w hC hl hk).mono ?_
  rintro e w' ⟨v1, v2, rfl, h1, h2, hb⟩
  obtain ⟨A1, c1, rfl, l1, C1⟩ := Kd.R_reads h1
  obtain ⟨A2, c2, rfl, l2, C2⟩ := Kd.R_reads h2
  exact ⟨A1, c1, A2, c2, rfl, l1, C1, l2, C2, hb⟩
theorem two_new (w : World) (o p : Obj) : Below w.heap.size w ((w.alloc o).alloc p) ∧ ((w.alloc o).alloc p).heap[w.heap.size]? = some o ∧ ((w.alloc o).alloc p).heap[w.heap.size + 1]? = some p :=
  ⟨(below_one o).alloc (Nat.le_of_lt (blk_lt (blk_new w o))) p, blk_below (blk_new w o) (below_one p), by simpa using blk_new (w.alloc o) p⟩
theorem addA_snoc : ∀ (l : List ByteArray) (x out : ByteArray) (f : Bool), addA out (l ++ [x]) f = (addA out l f ++ (if f = true ∧ l = [] then ⟨#[40]⟩ else ⟨#[44, 32]⟩)) ++ x
  | [], x, out, f => by simp [addA]
  | a :: l, x, out, f => by simp [addA, addA_snoc l]
abbrev TxS (w : World) (t : S25) (nm : ByteArray) (A : Option Addr) (c : Nat) (W : World) : Prop := W.heap[w.heap.size]? = some (.cells #[.bool false, .string nm, .slice A t.f2.length c] 25) ∧ Below w.heap.size w W
theorem addA_app : ∀ (l m : List ByteArray) (out : ByteArray) (f : Bool), addA out (l ++ m) f = addA (addA out l f) m (f && l.isEmpty)
  | [], m, out, f => by simp [addA]
  | a :: l, m, out, f => by simp [addA, addA_app l]
theorem addA_le : ∀ (l : List ByteArray) (out : ByteArray) (f : Bool), out.size ≤ (addA out l f).size
  | [], out, f => by simp [addA]
  | a :: l, out, f => by
    have := addA_le l ((out ++ (if f = true then ⟨#[40]⟩ else ⟨#[44, 32]⟩)) ++ a) false
    simp only [ByteArray.size_append] at this
    simp only [addA]
    omega
theorem addA_take (l : List ByteArray) (out : ByteArray) (f : Bool) (k : Nat) : (addA out (l.take k) f).size ≤ (addA out l f).size := by
  have h := addA_le (l.drop k) (addA out (l.take k) f) (f && (l.take k).isEmpty)
  rw [← addA_app, List.take_append_drop] at h
  exact h
set_option maxHeartbeats 2000000 in
set_option maxRecDepth 100000 in
theorem reftext_calls : ∀ (n : Nat) (t : S25) (A : Option Addr) (c : Nat) (w : World), szT t ≤ n → szT t ≤ 1500 → nm30 t → k25.C w A t.f2.length t.f2 → t.f2.length ≤ c →
    Calls Try.prog 80 #[.agg #[.bool t.f0, .string t.f1, .slice A t.f2.length c]] w fun e w' => e = .returned (.string (txT t)) ∧ Below w.heap.size w w'
  | 0, t, _, _, _, h, _, _, _, _ => by have := szT_pos t; omega
  | n + 1, t, A, c, w, hn, hs, hm, hA, hc => by
    have hb0 := below_one (w := w) (.cells #[.bool t.f0, .string t.f1, .slice A t.f2.length c] 25)
    have BX := blk_new w (.cells #[.bool t.f0, .string t.f1, .slice A t.f2.length c] 25)
    obtain ⟨x0, x1, x2, x3, x4, x5, x6⟩ := box3s BX
    have hsz := txT_size t hm
    rw [txT_eq] at hsz ⊢
    cases hv : t.f0 with
    | true =>
      rw [hv] at BX hb0 x0 x1 x2 x3 x4 x5 x6
      rw [if_pos rfl]
      clear hsz hA hm
      go_enter Try.func80, Try.ntmps80
      go_wp2
      go_ret
      exact ⟨rfl, hb0⟩
    | false =>
    rw [hv] at BX hb0 x0 x1 x2 x3 x4 x5 x6 hsz
    rw [if_neg (by simp)] at hsz ⊢
    have hD := fun W (hw : Below w.heap.size w W) => refdest_tr t (.agg #[.bool false, .string t.f1, .slice A t.f2.length c]) W ⟨A, c, by rw [hv], hc, Kd.C_below hA hw⟩ (by omega)
    by_cases hf : t.f1 = funN ∧ t.f2.length = 2
    · obtain ⟨x, y, hxy⟩ : ∃ x y, t.f2 = [x, y] := by
        match hq : t.f2, hf.2 with
        | [x, y], _ => exact ⟨x, y, rfl⟩
      have hd : destF t = (x, y, true) := by
        unfold destF
        rw [if_pos ⟨hv, hf.1, hf.2⟩, hxy]
        rfl
      have h2 := szT_eq' t
      rw [hxy] at h2
      simp only [szL] at h2
      have htx : txN t.f1 t.f2 (t.f2.map txT) = ((if (destF x).2.2 = true then parB (txT x) else txT x) ++ arrB) ++ txT y := by
        unfold txN
        rw [if_pos hf, hxy]
        rfl
      have hmx := nm30_mem hm (show x ∈ t.f2 by rw [hxy]; simp)
      have hmy := nm30_mem hm (show y ∈ t.f2 by rw [hxy]; simp)
      have ihx := fun A' c' W hC hl => reftext_calls n x A' c' W (by omega) (by omega) hmx hC hl
      have ihy := fun A' c' W hC hl => reftext_calls n y A' c' W (by omega) (by omega) hmy hC hl
      have hDx := fun u W hu => refdest_tr x u W hu (by omega)
      have zx := txT_size x hmx
      have zy := txT_size y hmy
      rw [hd] at hD
      rw [htx]
      clear htx hd hf hsz hm hmx hmy hA
      have sx : (txT x).size ≤ 60000 := by omega
      have sy : (txT y).size ≤ 60000 := by omega
      clear zx zy h2 hs hn hxy
      generalize txT x = tx at *
      generalize txT y = ty at *
      have hDx2 := hDx
      clear hDx
      cases hdx : (destF x).2.2 with
      | true =>
        rw [hdx] at hDx2
        rw [if_pos rfl]
        clear hdx
        go_enter Try.func80, Try.ntmps80
        go_wp2_with (first
          | (go_at_call 80; (with_reducible refine (ihy A2 c2 _ (Kd.C_below C2 (below_step hN hM)) l2).mono ?_); rintro e W4 ⟨rfl, hc4⟩; have hE := below_step (below_step hN hM) hc4)
          | (go_at_call 26; ((refine (hDx2 _ _ ⟨A1, c1, rfl, l1, Kd.C_below C1 hN⟩).mono ?_); rintro e W3 ⟨A3, c3, A4, c4, rfl, l3, C3, l4, C4, hc3⟩; have hM := below_step hc3 (two_new W3 (.cells #[.bool (destF x).1.f0, .string (destF x).1.f1, .slice A3 (destF x).1.f2.length c3] 25) (.cells #[.bool (destF x).2.1.f0, .string (destF x).2.1.f1, .slice A4 (destF x).2.1.f2.length c4] 25)).1; have Y3 := blk_below Y2 hM; obtain ⟨y0, y1, y2, y3, y4, y5, y6⟩ := box3s Y3))
          | (go_at_call 80; ((with_reducible refine (ihx A1 c1 _ (Kd.C_below C1 (two_new W1 _ _).1) l1).mono ?_); rintro e W2 ⟨rfl, hc2⟩; have hN := below_step (two_new W1 _ _).1 hc2; have X2 := blk_below (two_new W1 _ _).2.1 hc2; have Y2 := blk_below (two_new W1 _ _).2.2 hc2; obtain ⟨z0, z1, z2, z3, z4, z5, z6⟩ := box3s X2))
          | (go_at_call 26; (with_reducible refine (hD _ hb0).mono ?_); rintro e W1 ⟨A1, c1, A2, c2, rfl, l1, C1, l2, C2, hc1⟩))
        go_ret
        exact ⟨rfl, below_step (below_step hb0 hc1) hE⟩
      | false =>
        rw [hdx] at hDx2
        rw [if_neg (by simp)]
        clear hdx
        go_enter Try.func80, Try.ntmps80
        go_wp2_with (first
          | (go_at_call 80; (with_reducible refine (ihy A2 c2 _ (Kd.C_below C2 (below_step hN hM)) l2).mono ?_); rintro e W4 ⟨rfl, hc4⟩; have hE := below_step (below_step hN hM) hc4)
          | (go_at_call 26; ((refine (hDx2 _ _ ⟨A1, c1, rfl, l1, Kd.C_below C1 hN⟩).mono ?_); rintro e W3 ⟨A3, c3, A4, c4, rfl, l3, C3, l4, C4, hc3⟩; have hM := below_step hc3 (two_new W3 (.cells #[.bool (destF x).1.f0, .string (destF x).1.f1, .slice A3 (destF x).1.f2.length c3] 25) (.cells #[.bool (destF x).2.1.f0, .string (destF x).2.1.f1, .slice A4 (destF x).2.1.f2.length c4] 25)).1; have Y3 := blk_below Y2 hM; obtain ⟨y0, y1, y2, y3, y4, y5, y6⟩ := box3s Y3))
          | (go_at_call 80; ((with_reducible refine (ihx A1 c1 _ (Kd.C_below C1 (two_new W1 _ _).1) l1).mono ?_); rintro e W2 ⟨rfl, hc2⟩; have hN := below_step (two_new W1 _ _).1 hc2; have X2 := blk_below (two_new W1 _ _).2.1 hc2; have Y2 := blk_below (two_new W1 _ _).2.2 hc2; obtain ⟨z0, z1, z2, z3, z4, z5, z6⟩ := box3s X2))
          | (go_at_call 26; (with_reducible refine (hD _ hb0).mono ?_); rintro e W1 ⟨A1, c1, A2, c2, rfl, l1, C1, l2, C2, hc1⟩))
        go_ret
        exact ⟨rfl, below_step (below_step hb0 hc1) hE⟩
    · have hd2 : (destF t).2.2 = false := by
        unfold destF
        rw [if_neg (fun h => hf ⟨h.2.1, h.2.2⟩)]
      have htx : txN t.f1 t.f2 (t.f2.map txT) = if 0 < t.f2.length then addA (qnB t.f1) (t.f2.map txT) true ++ ⟨#[41]⟩ else addA (qnB t.f1) (t.f2.map txT) true := by
        unfold txN
        rw [if_neg hf]
      have hlen : t.f2.length ≤ 1500 := by
        have := szL_len t.f2
        have := szT_eq' t
        omega
      have ihk : ∀ kk, kk < t.f2.length → ∀ A' c' W, k25.C W A' (rd_T25 t.f2 (kk : Int)).f2.length (rd_T25 t.f2 (kk : Int)).f2 → (rd_T25 t.f2 (kk : Int)).f2.length ≤ c' → Calls Try.prog 80 #[.agg #[.bool (rd_T25 t.f2 (kk : Int)).f0, .string (rd_T25 t.f2 (kk : Int)).f1, .slice A' (rd_T25 t.f2 (kk : Int)).f2.length c']] W fun e w' => e = .returned (.string (txT (rd_T25 t.f2 (kk : Int)))) ∧ Below W.heap.size W w' := by
        intro kk hkk A' c' W hC hl
        have hm2 : rd_T25 t.f2 (kk : Int) ∈ t.f2 := by
          rw [(rd_get t.f2 kk _ (List.getElem?_eq_getElem hkk)).2]
          exact List.getElem_mem hkk
        have := szL_mem t.f2 _ hm2
        have := szT_eq' t
        exact reftext_calls n _ A' c' W (by omega) (by omega) (nm30_mem hm hm2) hC hl
      have hstep : ∀ o kk, kk < t.f2.length → addA o ((t.f2.map txT).take (kk + 1)) true = (addA o ((t.f2.map txT).take kk) true ++ (if kk = 0 then ⟨#[40]⟩ else ⟨#[44, 32]⟩)) ++ txT (rd_T25 t.f2 (kk : Int)) := by
        intro o kk hkk
        rw [List.take_add_one, List.getElem?_map, List.getElem?_eq_getElem hkk, (rd_get t.f2 kk _ (List.getElem?_eq_getElem hkk)).2]
        simp only [Option.map_some, Option.toList_some]
        rw [addA_snoc]
        cases kk with
        | zero => simp
        | succ k =>
          rw [if_neg, if_neg (by omega)]
          rintro ⟨_, h⟩
          have := congrArg List.length h
          rw [List.length_take, List.length_map, List.length_nil] at this
          omega
      have hz : (addA (qnB t.f1) (t.f2.map txT) true).size ≤ 60000 := by
        rw [htx] at hsz
        split at hsz
        · simp only [ByteArray.size_append] at hsz; omega
        · omega
      have hzk := fun k => Nat.le_trans (addA_take (t.f2.map txT) (qnB t.f1) true k) hz
      have hzx : ∀ kk, kk < t.f2.length → (txT (rd_T25 t.f2 (kk : Int))).size ≤ 60000 := by
        intro kk hkk
        have hm2 : rd_T25 t.f2 (kk : Int) ∈ t.f2 := by
          rw [(rd_get t.f2 kk _ (List.getElem?_eq_getElem hkk)).2]
          exact List.getElem_mem hkk
        have := szL_mem t.f2 _ hm2
        have := szT_eq' t
        have := txT_size _ (nm30_mem hm hm2)
        omega
      have hn30 : t.f1.size ≤ 30 := ((allT_eq _ t).1 hm).1
      rw [htx]
      rw [hd2] at hD
      have hAi : addA (qnB t.f1) (t.f2.map txT) true = addA (qnB t.f1) ((t.f2.map txT).take t.f2.length) true := by rw [← List.length_map (f := txT), List.take_length]
      rw [hAi]
      clear htx hAi hsz hm hf hd2 hs hn hz
      have HA := Aside0.mk hA
      have IH := Aside0.mk ihk
      have ST := Aside0.mk hstep
      have HZ := Aside0.mk hzk
      have HX := Aside0.mk hzx
      clear hA ihk hstep hzk hzx
      generalize t.f2.map txT = ts at *
      generalize hnm : t.f1 = nm at *
      go_enter Try.func80, Try.ntmps80
      go_wp2_with (first
        | (go_at_call 26; (with_reducible refine (hD _ hb0).mono ?_); rintro e W1 ⟨A1, c1, A2, c2, rfl, l1, C1, l2, C2, hc1⟩; have X1 := blk_below BX hc1; obtain ⟨y0, y1, y2, y3, y4, y5, y6⟩ := box3s X1))
      · have hS0 : TxS w t nm A c ((W1.alloc (.cells #[.bool (destF t).1.f0, .string (destF t).1.f1, .slice A1 (destF t).1.f2.length c1] 25)).alloc (.cells #[.bool (destF t).2.1.f0, .string (destF t).2.1.f1, .slice A2 (destF t).2.1.f2.length c2] 25)) := ⟨blk_below X1 (two_new W1 _ _).1, below_step (below_step hb0 hc1) (two_new W1 _ _).1⟩
        generalize (W1.alloc (.cells #[.bool (destF t).1.f0, .string (destF t).1.f1, .slice A1 (destF t).1.f2.length c1] 25)).alloc (.cells #[.bool (destF t).2.1.f0, .string (destF t).2.1.f1, .slice A2 (destF t).2.1.f2.length c2] 25) = W0 at hS0 ⊢
        clear hb0 BX x0 x1 x2 x3 x4 x5 x6 hD X1 y0 y1 y2 y3 y4 y5 y6 C1 C2 hc1 l1 l2
        go_loopg [10, 11] t.f2.length (fun gg v10 v11 wr => ∃ kk : Nat, kk ≤ t.f2.length ∧ gg + kk = t.f2.length ∧ v10 = .string (addA (qnB nm) (ts.take kk) true) ∧ v11 = .int .i64 (kk : Int) ∧ Aside0 (TxS w t nm A c wr))
        case atStart =>
          refine ⟨0, by omega, by omega, ?_, rfl, ⟨hS0⟩⟩
          rw [List.take_zero]
          simp_all [addA, qnB, quoB]
        case round =>
          obtain ⟨kk, hk1, hk2, rfl, rfl, hT⟩ := hrel
          clear hS0
          obtain ⟨BW, hb⟩ := hT.out
          clear hT
          obtain ⟨z0, z1, z2, z3, z4, z5, z6⟩ := box3s BW
          by_cases hkk : kk < t.f2.length
          · have q0 : decide (kk < t.f2.length) = true := decide_eq_true hkk
            obtain ⟨ad, A2, c2, rfl, hx0, hx1, hx2, hl2, hC2⟩ := at_T25 HA.out (kk : Int) (by omega) (by omega)
            replace hx0 := pw_cell_below hb hx0
            replace hx1 := pw_cell_below hb hx1
            replace hx2 := pw_cell_below hb hx2
            simp only [Int.toNat_natCast] at hx0 hx1 hx2
            have hcall := fun W (hw : Below w.heap.size w W) => IH.out kk hkk A2 c2 W (Kd.C_below hC2 hw) hl2
            have hs := ST.out (qnB nm) kk hkk
            have hz1 := HZ.out kk
            have hzx := HX.out kk hkk
            have HS := Lib.hid hs
            clear hs hC2
            generalize addA (qnB nm) (ts.take kk) true = ac at *
            generalize rd_T25 t.f2 (kk : Int) = x at *
            generalize txT x = tx at *
            by_cases hk0 : kk = 0
            · subst hk0
              rw [show ad.add (0 * 3) = ad by cases ad; simp [Addr.add]] at hx0 hx1 hx2
              go_wp2_with (go_at_call 80; (with_reducible refine (hcall _ hb).mono ?_); rintro e W2 ⟨rfl, hc2⟩)
              go_roundg (t.f2.length - 0 - 1)
              case measure => omega
              case rel => exact ⟨0 + 1, by omega, by omega, by rw [HS.out] <;> rfl, by simp, ⟨blk_below BW hc2, below_step hb hc2⟩⟩
            · have q1 : decide (kk = 0) = false := decide_eq_false hk0
              rw [if_neg hk0] at HS
              go_wp2_with (go_at_call 80; (with_reducible refine (hcall _ hb).mono ?_); rintro e W2 ⟨rfl, hc2⟩)
              go_roundg (t.f2.length - kk - 1)
              case measure => omega
              case rel => exact ⟨kk + 1, by omega, by omega, by rw [HS.out] <;> rfl, by simp, ⟨blk_below BW hc2, below_step hb hc2⟩⟩
          · have q0 : decide (kk < t.f2.length) = false := decide_eq_false hkk
            obtain rfl : kk = t.f2.length := by omega
            by_cases hp : 0 < t.f2.length
            · have q1 : decide (0 < t.f2.length) = true := decide_eq_true hp
              have hz1 := HZ.out t.f2.length
              go_wp2_with fail
              go_ret
              exact ⟨by (first | rfl | (simp only [hp, if_true]; rfl)), hb⟩
            · have q1 : decide (0 < t.f2.length) = false := decide_eq_false hp
              have hz1 := HZ.out t.f2.length
              go_wp2_with fail
              go_ret
              exact ⟨by (first | rfl | (simp only [hp, if_false]; rfl)), hb⟩
      · have hS0 : TxS w t nm A c ((W1.alloc (.cells #[.bool (destF t).1.f0, .string (destF t).1.f1, .slice A1 (destF t).1.f2.length c1] 25)).alloc (.cells #[.bool (destF t).2.1.f0, .string (destF t).2.1.f1, .slice A2 (destF t).2.1.f2.length c2] 25)) := ⟨blk_below X1 (two_new W1 _ _).1, below_step (below_step hb0 hc1) (two_new W1 _ _).1⟩
        generalize (W1.alloc (.cells #[.bool (destF t).1.f0, .string (destF t).1.f1, .slice A1 (destF t).1.f2.length c1] 25)).alloc (.cells #[.bool (destF t).2.1.f0, .string (destF t).2.1.f1, .slice A2 (destF t).2.1.f2.length c2] 25) = W0 at hS0 ⊢
        clear hb0 BX x0 x1 x2 x3 x4 x5 x6 hD X1 y0 y1 y2 y3 y4 y5 y6 C1 C2 hc1 l1 l2
        go_loopg [10, 11] t.f2.length (fun gg v10 v11 wr => ∃ kk : Nat, kk ≤ t.f2.length ∧ gg + kk = t.f2.length ∧ v10 = .string (addA (qnB nm) (ts.take kk) true) ∧ v11 = .int .i64 (kk : Int) ∧ Aside0 (TxS w t nm A c wr))
        case atStart =>
          refine ⟨0, by omega, by omega, ?_, rfl, ⟨hS0⟩⟩
          rw [List.take_zero]
          simp_all [addA, qnB, quoB]
        case round =>
          obtain ⟨kk, hk1, hk2, rfl, rfl, hT⟩ := hrel
          clear hS0
          obtain ⟨BW, hb⟩ := hT.out
          clear hT
          obtain ⟨z0, z1, z2, z3, z4, z5, z6⟩ := box3s BW
          by_cases hkk : kk < t.f2.length
          · have q0 : decide (kk < t.f2.length) = true := decide_eq_true hkk
            obtain ⟨ad, A2, c2, rfl, hx0, hx1, hx2, hl2, hC2⟩ := at_T25 HA.out (kk : Int) (by omega) (by omega)
            replace hx0 := pw_cell_below hb hx0
            replace hx1 := pw_cell_below hb hx1
            replace hx2 := pw_cell_below hb hx2
            simp only [Int.toNat_natCast] at hx0 hx1 hx2
            have hcall := fun W (hw : Below w.heap.size w W) => IH.out kk hkk A2 c2 W (Kd.C_below hC2 hw) hl2
            have hs := ST.out (qnB nm) kk hkk
            have hz1 := HZ.out kk
            have hzx := HX.out kk hkk
            have HS := Lib.hid hs
            clear hs hC2
            generalize addA (qnB nm) (ts.take kk) true = ac at *
            generalize rd_T25 t.f2 (kk : Int) = x at *
            generalize txT x = tx at *
            by_cases hk0 : kk = 0
            · subst hk0
              rw [show ad.add (0 * 3) = ad by cases ad; simp [Addr.add]] at hx0 hx1 hx2
              go_wp2_with (go_at_call 80; (with_reducible refine (hcall _ hb).mono ?_); rintro e W2 ⟨rfl, hc2⟩)
              go_roundg (t.f2.length - 0 - 1)
              case measure => omega
              case rel => exact ⟨0 + 1, by omega, by omega, by rw [HS.out] <;> rfl, by simp, ⟨blk_below BW hc2, below_step hb hc2⟩⟩
            · have q1 : decide (kk = 0) = false := decide_eq_false hk0
              rw [if_neg hk0] at HS
              go_wp2_with (go_at_call 80; (with_reducible refine (hcall _ hb).mono ?_); rintro e W2 ⟨rfl, hc2⟩)
              go_roundg (t.f2.length - kk - 1)
              case measure => omega
              case rel => exact ⟨kk + 1, by omega, by omega, by rw [HS.out] <;> rfl, by simp, ⟨blk_below BW hc2, below_step hb hc2⟩⟩
          · have q0 : decide (kk < t.f2.length) = false := decide_eq_false hkk
            obtain rfl : kk = t.f2.length := by omega
            by_cases hp : 0 < t.f2.length
            · have q1 : decide (0 < t.f2.length) = true := decide_eq_true hp
              have hz1 := HZ.out t.f2.length
              go_wp2_with fail
              go_ret
              exact ⟨by (first | rfl | (simp only [hp, if_true]; rfl)), hb⟩
            · have q1 : decide (0 < t.f2.length) = false := decide_eq_false hp
              have hz1 := HZ.out t.f2.length
              go_wp2_with fail
              go_ret
              exact ⟨by (first | rfl | (simp only [hp, if_false]; rfl)), hb⟩
      · have h2 : (nm.toList == [45, 62]) = false ∧ (nm.toList == [124, 45]) = false := by assumption
        rw [h2.1, h2.2, show (false || false) = false from rfl]
        have hS0 : TxS w t nm A c ((W1.alloc (.cells #[.bool (destF t).1.f0, .string (destF t).1.f1, .slice A1 (destF t).1.f2.length c1] 25)).alloc (.cells #[.bool (destF t).2.1.f0, .string (destF t).2.1.f1, .slice A2 (destF t).2.1.f2.length c2] 25)) := ⟨blk_below X1 (two_new W1 _ _).1, below_step (below_step hb0 hc1) (two_new W1 _ _).1⟩
        generalize (W1.alloc (.cells #[.bool (destF t).1.f0, .string (destF t).1.f1, .slice A1 (destF t).1.f2.length c1] 25)).alloc (.cells #[.bool (destF t).2.1.f0, .string (destF t).2.1.f1, .slice A2 (destF t).2.1.f2.length c2] 25) = W0 at hS0 ⊢
        clear hb0 BX x0 x1 x2 x3 x4 x5 x6 hD X1 y0 y1 y2 y3 y4 y5 y6 C1 C2 hc1 l1 l2
        go_loopg [10, 11] t.f2.length (fun gg v10 v11 wr => ∃ kk : Nat, kk ≤ t.f2.length ∧ gg + kk = t.f2.length ∧ v10 = .string (addA (qnB nm) (ts.take kk) true) ∧ v11 = .int .i64 (kk : Int) ∧ Aside0 (TxS w t nm A c wr))
        case atStart =>
          refine ⟨0, by omega, by omega, ?_, rfl, ⟨hS0⟩⟩
          rw [List.take_zero]
          simp_all [addA, qnB, quoB]
        case round =>
          obtain ⟨kk, hk1, hk2, rfl, rfl, hT⟩ := hrel
          clear hS0
          obtain ⟨BW, hb⟩ := hT.out
          clear hT
          obtain ⟨z0, z1, z2, z3, z4, z5, z6⟩ := box3s BW
          by_cases hkk : kk < t.f2.length
          · have q0 : decide (kk < t.f2.length) = true := decide_eq_true hkk
            obtain ⟨ad, A2, c2, rfl, hx0, hx1, hx2, hl2, hC2⟩ := at_T25 HA.out (kk : Int) (by omega) (by omega)
            replace hx0 := pw_cell_below hb hx0
            replace hx1 := pw_cell_below hb hx1
            replace hx2 := pw_cell_below hb hx2
            simp only [Int.toNat_natCast] at hx0 hx1 hx2
            have hcall := fun W (hw : Below w.heap.size w W) => IH.out kk hkk A2 c2 W (Kd.C_below hC2 hw) hl2
            have hs := ST.out (qnB nm) kk hkk
            have hz1 := HZ.out kk
            have hzx := HX.out kk hkk
            have HS := Lib.hid hs
            clear hs hC2
            generalize addA (qnB nm) (ts.take kk) true = ac at *
            generalize rd_T25 t.f2 (kk : Int) = x at *
            generalize txT x = tx at *
            by_cases hk0 : kk = 0
            · subst hk0
              rw [show ad.add (0 * 3) = ad by cases ad; simp [Addr.add]] at hx0 hx1 hx2
              go_wp2_with (go_at_call 80; (with_reducible refine (hcall _ hb).mono ?_); rintro e W2 ⟨rfl, hc2⟩)
              go_roundg (t.f2.length - 0 - 1)
              case measure => omega
              case rel => exact ⟨0 + 1, by omega, by omega, by rw [HS.out] <;> rfl, by simp, ⟨blk_below BW hc2, below_step hb hc2⟩⟩
            · have q1 : decide (kk = 0) = false := decide_eq_false hk0
              rw [if_neg hk0] at HS
              go_wp2_with (go_at_call 80; (with_reducible refine (hcall _ hb).mono ?_); rintro e W2 ⟨rfl, hc2⟩)
              go_roundg (t.f2.length - kk - 1)
              case measure => omega
              case rel => exact ⟨kk + 1, by omega, by omega, by rw [HS.out] <;> rfl, by simp, ⟨blk_below BW hc2, below_step hb hc2⟩⟩
          · have q0 : decide (kk < t.f2.length) = false := decide_eq_false hkk
            obtain rfl : kk = t.f2.length := by omega
            by_cases hp : 0 < t.f2.length
            · have q1 : decide (0 < t.f2.length) = true := decide_eq_true hp
              have hz1 := HZ.out t.f2.length
              go_wp2_with fail
              go_ret
              exact ⟨by (first | rfl | (simp only [hp, if_true]; rfl)), hb⟩
            · have q1 : decide (0 < t.f2.length) = false := decide_eq_false hp
              have hz1 := HZ.out t.f2.length
              go_wp2_with fail
              go_ret
              exact ⟨by (first | rfl | (simp only [hp, if_false]; rfl)), hb⟩
end Go.Proofs.Ytgnklkmifcmlhaa.Q
