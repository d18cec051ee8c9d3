/- Proved here: parts of the proof of a given statement (HRowSignatureAdds): contracts of the functions that it reaches, what they answer, and in the last text the statement itself. Conditions: those that each theorem names. -/
import Derived.Test.YtgnklkmifcmlhaaZSAX10
import Derived.Test.YtgnklkmifcmlhaaZSAX4
import Derived.Test.YtgnklkmifcmlhaaZSAX13
import Derived.Test.YtgnklkmifcmlhaaZSAX8
import Derived.Test.YtgnklkmifcmlhaaZSAX9
import Derived.Test.YtgnklkmifcmlhaaZSAX12
import Derived.Test.YtgnklkmifcmlhaaZSAX11
/- Proved here: the contract of signature.tables.over. Conditions: those that each theorem names. -/
namespace Go.Proofs.Ytgnklkmifcmlhaa.Q
open Go.RowKit Go.Shelf Go.Proofs.YtgnklkmifcmlhaaW.PrintWords Go.Proofs.YtgnklkmifcmlhaaW.PrintMore
set_option linter.unusedVariables false
set_option linter.unusedSimpArgs false
attribute [local go_sem] Oper.semAt_some

mutual
def overT (d : List (ByteArray × Int)) : S25 → Bool
  | ⟨v, n, l⟩ => v || (decide (lookK n d = some (l.length : Int)) && overL d l)
def overL (d : List (ByteArray × Int)) : List S25 → Bool
  | [] => true
  | a :: l => overT d a && overL d l
end
theorem overT_eq (d : List (ByteArray × Int)) (t : S25) : overT d t = (t.f0 || (decide (lookK t.f1 d = some (t.f2.length : Int)) && overL d t.f2)) := by cases t; simp [overT]
theorem over_contains (d : List (ByteArray × Int)) : ∀ l : List S25, containsO (fun x => some (!overT d x)) l = some (!overL d l)
  | [] => rfl
  | a :: l => by
    simp only [containsO, Option.bind_some, overL]
    rw [over_contains d l]
    cases overT d a <;> simp
set_option maxHeartbeats 1000000 in
theorem over1_pred (d : List (ByteArray × Int)) (m1 : Nat) (v2 : Value) (B : Nat) (x : S25) (w : World) (hB : w.heap[B]? = some (.cells #[.map (some m1), v2] 128)) (hd : ArIs w m1 d)
    (ih : ∀ (A : Option Addr) (c : Nat) (W : World), ArIs W m1 d → k25.C W A x.f2.length x.f2 → x.f2.length ≤ c → Calls Try.prog 91 #[.agg #[.map (some m1), v2], .agg #[.bool x.f0, .string x.f1, .slice A x.f2.length c]] W fun e w' => e = .returned (.bool (overT d x)) ∧ Below W.heap.size W w') :
    PredTY 124 #[.pointer (some ⟨B, 0, none⟩)] x (!overT d x) w := by
  intro W A c hb hl hC
  have hBW := blk_below hB hb
  have hdW := MapIs.later hd hb
  have hb0 := below_one (w := W) (.cells #[.bool x.f0, .string x.f1, .slice A x.f2.length c] 25)
  obtain ⟨b0, b1, b2, b3⟩ := box2k (blk_below hBW hb0)
  obtain ⟨x0, x1, x2, _, _, _, _⟩ := box3s (blk_new W (.cells #[.bool x.f0, .string x.f1, .slice A x.f2.length c] 25))
  have hcall := ih A c _ (MapIs.later hdW hb0) (Kd.C_below hC hb0) hl
  have HB := Aside0.mk hb
  clear ih hB hd hb hl hC hBW hdW
  show Calls Try.prog 124 #[.agg #[.bool x.f0, .string x.f1, .slice A x.f2.length c], .pointer (some ⟨B, 0, none⟩)] W _
  go_enter Try.func124, Try.ntmps124
  go_wp2_with (go_at_call 91; refine hcall.mono ?_; rintro e W1 ⟨rfl, hc1⟩)
  go_ret
  exact ⟨rfl, HB.out.trans ((below_step hb0 hc1).mono HB.out.size)⟩
set_option maxHeartbeats 2000000 in
set_option maxRecDepth 100000 in
theorem over_calls (d : List (ByteArray × Int)) (m1 : Nat) (v2 : Value) : ∀ (n : Nat) (t : S25) (A : Option Addr) (c : Nat) (w : World), szT t ≤ n → ArIs w m1 d → k25.C w A t.f2.length t.f2 → t.f2.length ≤ c →
    Calls Try.prog 91 #[.agg #[.map (some m1), v2], .agg #[.bool t.f0, .string t.f1, .slice A t.f2.length c]] w fun e w' => e = .returned (.bool (overT d t)) ∧ Below w.heap.size w w'
  | 0, t, _, _, _, h, _, _, _ => by have := szT_pos t; omega
  | n + 1, t, A, c, w, hn, hd, hA, hc => by
    have hb0 := (two_new w (.cells #[.map (some m1), v2] 128) (.cells #[.bool t.f0, .string t.f1, .slice A t.f2.length c] 25)).1
    have BB := (two_new w (.cells #[.map (some m1), v2] 128) (.cells #[.bool t.f0, .string t.f1, .slice A t.f2.length c] 25)).2.1
    have BX := (two_new w (.cells #[.map (some m1), v2] 128) (.cells #[.bool t.f0, .string t.f1, .slice A t.f2.length c] 25)).2.2
    obtain ⟨b0, b1, b2, b3⟩ := box2k BB
    obtain ⟨x0, x1, x2, x3, x4, x5, x6⟩ := box3s BX
    have hd0 := MapIs.later hd hb0
    have r1 := ArIs.look hd0 t.f1
    rw [overT_eq]
    cases hv : t.f0 with
    | true =>
      rw [hv] at x0 BX hb0 BB b0 b1 x1 x2 hd0 r1
      rw [Bool.true_or]
      clear hA hd0 r1 hd x3 x4 x5 x6
      go_enter Try.func91, Try.ntmps91
      go_wp2
      go_ret
      exact ⟨rfl, hb0⟩
    | false =>
      rw [hv] at x0 BX hb0 BB b0 b1 x1 x2 hd0 r1 x3 x4 x5 x6
      rw [Bool.false_or]
      have hcon := fun (h : True) => containsFunc_TY 124 #[.pointer (some ⟨w.heap.size, 0, none⟩)] (enters_of Try.func124 (by kernel_rfl) rfl) (fun x => some (!overT d x)) _ A c t.f2 _ (Kd.C_below hA hb0)
        (fun x hx b hb => by
          have hp := over1_pred d m1 v2 w.heap.size x _ BB hd0 (fun A' c' W h1 h2 h3 => over_calls d m1 v2 n x A' c' W (by have := szL_mem t.f2 x hx; have := szT_eq' t; omega) h1 h2 h3)
          rwa [Option.some.inj hb] at hp) (over_contains d t.f2)
      have hcn := hcon trivial
      clear hcon hn hA hd
      generalize hlk : lookK t.f1 d = lk at *
      generalize overL d t.f2 = ov at *
      cases lk with
      | none =>
        simp only [Option.getD_none, Option.isSome_none] at r1
        rw [decide_eq_false (by simp), Bool.false_and]
        clear hcn x3 x4 x5 x6
        go_enter Try.func91, Try.ntmps91
        go_wp2
        go_ret
        exact ⟨rfl, hb0⟩
      | some a =>
        simp only [Option.getD_some, Option.isSome_some] at r1
        by_cases ha : a = (t.f2.length : Int)
        · subst ha
          rw [decide_eq_true rfl, Bool.true_and]
          go_enter Try.func91, Try.ntmps91
          go_wp2_with (go_at_call 123; refine hcn.mono ?_; rintro e W1 ⟨rfl, hc1⟩)
          go_ret
          exact ⟨by simp, below_step hb0 hc1⟩
        · rw [decide_eq_false (by simpa using ha), Bool.false_and]
          have ha1 : (a == (t.f2.length : Int)) = false := beq_eq_false_iff_ne.mpr ha
          clear hcn x3 x4 x5 x6
          go_enter Try.func91, Try.ntmps91
          go_wp2
          go_ret
          exact ⟨rfl, hb0⟩
end Go.Proofs.Ytgnklkmifcmlhaa.Q
/- Proved here: printer.CheckSyntax and its reference answer the same. Conditions: those that each theorem names. -/
namespace Go.Proofs.Ytgnklkmifcmlhaa.Q
open Go.RowKit Go.Shelf Go.Proofs.YtgnklkmifcmlhaaW.PrintWords Go.Proofs.YtgnklkmifcmlhaaW.PrintMore
set_option linter.unusedVariables false
set_option linter.unusedSimpArgs false

/-! ### Names -/
def nmC (n : ByteArray) : Bool := nameB n && !(bt n 0 == 39)
theorem fit_leaf (v : Bool) (n : ByteArray) (h : okS n) : fit ⟨v, n, []⟩ := ⟨by simp [szT, szL], by simp [allT, allL, h]⟩
theorem chk_leaf (n : ByteArray) : chkB ⟨false, n, []⟩ = nmC n := by
  simp [chkB, shB, shBL, headB, nmC, szT, szL, dpT, dpL]
theorem rname_ev (n : ByteArray) (h : okS n) : Ev (fun k => sequentref02_Name.f k n) (nmC n) := by
  simp only [sequentref02_Name.f]
  refine Ev.bind (refname_ev n h) (Ev.ite (fun e => Ev.pos ?_ ((Ev.pure _).val ?_)) (fun e => (Ev.pure _).val ?_))
  · have e' := e
    simp only [nameB, Bool.and_eq_true, decide_eq_true_eq] at e'
    omega
  · simp [nmC, e, bne]
  · simp [nmC, e]

/-! ### The checks as plain tests -/
end Go.Proofs.Ytgnklkmifcmlhaa.Q
