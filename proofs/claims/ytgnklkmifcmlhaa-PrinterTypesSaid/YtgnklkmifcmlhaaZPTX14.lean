/- Proved here: parts of the proof of a given statement (HRowPrinterTypes): contracts of the functions that it reaches, what they answer, and in the last text the statement itself. Conditions: those that each theorem names. -/
import Derived.Test.YtgnklkmifcmlhaaZPTX11
import Derived.Test.YtgnklkmifcmlhaaZPTX6
/- Proved here: the closure add of printer.CheckSyntax puts a name into a set of names and tells whether it was valid and new. Conditions: those that each theorem names. -/
namespace Go.Proofs.Ytgnklkmifcmlhaa.Q
open Go.RowKit Go.Shelf Go.Proofs.YtgnklkmifcmlhaaW.PrintWords Go.Proofs.YtgnklkmifcmlhaaW.PrintMore
set_option linter.unusedVariables false
set_option linter.unusedSimpArgs false
attribute [local go_sem] Oper.semAt_some

/-- All but block m stays. -/
structure But (m : Nat) (w w' : World) : Prop where
  os : w'.os = w.os
  tape : w'.tape = w.tape
  output : w'.output = w.output
  size : w.heap.size ≤ w'.heap.size
  block : ∀ k, k < w.heap.size → k ≠ m → w'.heap[k]? = w.heap[k]?
theorem But.of {m : Nat} {w w' : World} (h : Below w.heap.size w w') : But m w w' := ⟨h.os, h.tape, h.output, h.size, fun k hk _ => h.block k hk⟩
theorem But.trans {m : Nat} {w w1 w2 : World} (h : But m w w1) (g : But m w1 w2) : But m w w2 :=
  ⟨g.os.trans h.os, g.tape.trans h.tape, g.output.trans h.output, Nat.le_trans h.size g.size, fun k hk hm => (g.block k (Nat.lt_of_lt_of_le hk h.size) hm).trans (h.block k hk hm)⟩
theorem But.put (m : Nat) (w : World) (o : Obj) : But m w { w with heap := w.heap.setIfInBounds m o } :=
  ⟨rfl, rfl, rfl, by simp, fun k hk hm => by
    show (w.heap.setIfInBounds m o)[k]? = w.heap[k]?
    rw [Array.getElem?_setIfInBounds_ne (Ne.symm hm)]⟩
theorem But.below {base m : Nat} {v w w' : World} (h : Below base v w) (g : But m w w') (hb : base ≤ m) (hv : base ≤ v.heap.size) : Below base v w' :=
  ⟨g.os.trans h.os, g.tape.trans h.tape, g.output.trans h.output, Nat.le_trans h.size g.size, fun k hk => (g.block k (Nat.lt_of_lt_of_le hk (Nat.le_trans hv h.size)) (by omega)).trans (h.block k hk)⟩

theorem add_calls (k : Nat) (n : ByteArray) (b : Bool) (m : Nat) (l : List ByteArray) (w : World) (hm : SetIs w m l) (h : printer_valid.f k n = some b) :
    Calls Try.prog 81 #[.map (some m), .string n] w fun e w' => e = .returned (.bool (b && !decide (n ∈ l))) ∧ SetIs w' m (addS n l) ∧ But m w w' := by
  have hb0 := Below.refl w.heap.size w
  have hv := fun W => printer_valid.calls k n b W h
  cases b with
  | true =>
    by_cases hn : n ∈ l
    · have hn' : decide (n ∈ l) = true := decide_eq_true hn
      go_enter Try.func81, Try.ntmps81
      go_wp2_with (go_at_call 82; (refine (hv _).mono ?_); rintro e W1 ⟨rfl, hc1⟩; have hm1 := MapIs.later hm hc1; have r1 := SetIs.look hm1 n; rw [hn'] at r1; obtain ⟨o, r2, hs⟩ := SetIs.put hm1 n)
      go_ret
      exact ⟨by simp [hn], hs, (But.of hc1).trans (But.put _ _ _)⟩
    · have hn' : decide (n ∈ l) = false := decide_eq_false hn
      go_enter Try.func81, Try.ntmps81
      go_wp2_with (go_at_call 82; (refine (hv _).mono ?_); rintro e W1 ⟨rfl, hc1⟩; have hm1 := MapIs.later hm hc1; have r1 := SetIs.look hm1 n; rw [hn'] at r1; obtain ⟨o, r2, hs⟩ := SetIs.put hm1 n)
      go_ret
      exact ⟨by simp [hn], hs, (But.of hc1).trans (But.put _ _ _)⟩
  | false =>
    go_enter Try.func81, Try.ntmps81
    go_wp2_with (go_at_call 82; (refine (hv _).mono ?_); rintro e W1 ⟨rfl, hc1⟩; have hm1 := MapIs.later hm hc1; obtain ⟨o, r2, hs⟩ := SetIs.put hm1 n)
    go_ret
    exact ⟨by simp, hs, (But.of hc1).trans (But.put _ _ _)⟩
end Go.Proofs.Ytgnklkmifcmlhaa.Q
/- Defined here: what printer.CheckSyntax reckons, in plain Lean over the test of a name. Conditions: those that each theorem names. -/
namespace Go.Proofs.Ytgnklkmifcmlhaa.Q
open Go.RowKit Go.Shelf Go.Proofs.YtgnklkmifcmlhaaW.PrintWords Go.Proofs.YtgnklkmifcmlhaaW.PrintMore
set_option linter.unusedVariables false
set_option linter.unusedSimpArgs false

def addF (v : ByteArray → Option Bool) (ok : Bool) (s : List ByteArray) (n : ByteArray) : Option (Bool × List ByteArray) :=
  if ok = true then (v n).bind fun b => some (b && !decide (n ∈ s), addS n s) else some (false, s)
def sideOk (d : List (Int × Bool)) (p : Int) (r : Bool) : Bool := !(lookI p d).isSome || ((lookI p d).getD false == r)
def inF (v : ByteArray → Option Bool) : List S119 → Bool → List ByteArray → List (Int × Bool) → Option (Bool × List ByteArray × List (Int × Bool))
  | [], ok, s, d => some (ok, s, d)
  | a :: l, ok, s, d => (addF v ok s a.f0).bind fun r => inF v l (r.1 && (decide (1 ≤ a.f1) && (decide (a.f1 ≤ 99) && sideOk d a.f1 a.f2))) r.2 (putI a.f1 a.f2 d)
def prF (v : ByteArray → Option Bool) (d : List (Int × Bool)) : List S122 → Bool → List ByteArray → Option (Bool × List ByteArray)
  | [], ok, s => some (ok, s)
  | a :: l, ok, s => (addF v ok s a.f0).bind fun r => prF v d l (r.1 && (decide (1 ≤ a.f1) && (decide (a.f1 ≤ 99) && !(lookI a.f1 d).isSome))) r.2
def biF (v : ByteArray → Option Bool) : List ByteArray → Bool → List ByteArray → Option (Bool × List ByteArray)
  | [], ok, s => some (ok, s)
  | a :: l, ok, s => (addF v ok s a).bind fun r => biF v l r.1 r.2
def coF (v : ByteArray → Option Bool) : List ByteArray → Bool → Option Bool
  | [], ok => some ok
  | a :: l, ok => if ok = true then (v a).bind fun b => coF v l b else coF v l false
def ovF (v : ByteArray → Option Bool) : List S111 → Bool → List ByteArray → Option (Bool × List ByteArray)
  | [], ok, s => some (ok, s)
  | a :: l, ok, s => (addF v ok s a.f0).bind fun r => (coF v a.f1 (r.1 && (decide (1 ≤ (a.f1.length : Int)) && decide ((a.f1.length : Int) ≤ 8)))).bind fun q => ovF v l q r.2
def ckF (v : ByteArray → Option Bool) (l0 : List S119) (l1 : List S122) (l2 : List ByteArray) (l3 : List S111) : Option Int :=
  if 64 < l0.length ∨ 64 < l1.length ∨ 64 < l2.length ∨ 64 < l3.length then some 8 else
  (inF v l0 true [] []).bind fun r0 => (prF v r0.2.2 l1 r0.1 r0.2.1).bind fun r1 => (biF v l2 r1.1 r1.2).bind fun r2 => (ovF v l3 r2.1 []).bind fun r3 => some (if r3.1 = true then 0 else 8)

/-! ### More fuel, the same answer -/
variable {v v' : ByteArray → Option Bool}
/-! ### One step -/
theorem addF_inv {ok : Bool} {s : List ByteArray} {n : ByteArray} {r : Bool × List ByteArray} (h : addF v ok s n = some r) :
    (ok = false ∧ r = (false, s)) ∨ (ok = true ∧ ∃ b, v n = some b ∧ r = (b && !decide (n ∈ s), addS n s)) := by
  unfold addF at h
  split at h
  · next hk =>
    obtain ⟨b, h1, h2⟩ := Option.bind_eq_some_iff.1 h
    exact .inr ⟨hk, b, h1, (Option.some.inj h2).symm⟩
  · next hk => exact .inl ⟨by simpa using hk, (Option.some.inj h).symm⟩
theorem inF_inv {a : S119} {l : List S119} {ok : Bool} {s : List ByteArray} {d : List (Int × Bool)} {R : Bool × List ByteArray × List (Int × Bool)} (h : inF v (a :: l) ok s d = some R) :
    (ok = false ∧ inF v l false s (putI a.f1 a.f2 d) = some R) ∨
    (ok = true ∧ ∃ b, v a.f0 = some b ∧ inF v l ((b && !decide (a.f0 ∈ s)) && (decide (1 ≤ a.f1) && (decide (a.f1 ≤ 99) && sideOk d a.f1 a.f2))) (addS a.f0 s) (putI a.f1 a.f2 d) = some R) := by
  obtain ⟨r, h1, h2⟩ := Option.bind_eq_some_iff.1 h
  rcases addF_inv h1 with ⟨rfl, rfl⟩ | ⟨rfl, b, hb, rfl⟩
  · exact .inl ⟨rfl, h2⟩
  · exact .inr ⟨rfl, b, hb, h2⟩
theorem prF_inv {a : S122} {l : List S122} {ok : Bool} {s : List ByteArray} {d : List (Int × Bool)} {R : Bool × List ByteArray} (h : prF v d (a :: l) ok s = some R) :
    (ok = false ∧ prF v d l false s = some R) ∨
    (ok = true ∧ ∃ b, v a.f0 = some b ∧ prF v d l ((b && !decide (a.f0 ∈ s)) && (decide (1 ≤ a.f1) && (decide (a.f1 ≤ 99) && !(lookI a.f1 d).isSome))) (addS a.f0 s) = some R) := by
  obtain ⟨r, h1, h2⟩ := Option.bind_eq_some_iff.1 h
  rcases addF_inv h1 with ⟨rfl, rfl⟩ | ⟨rfl, b, hb, rfl⟩
  · exact .inl ⟨rfl, h2⟩
  · exact .inr ⟨rfl, b, hb, h2⟩
theorem biF_inv {a : ByteArray} {l : List ByteArray} {ok : Bool} {s : List ByteArray} {R : Bool × List ByteArray} (h : biF v (a :: l) ok s = some R) :
    (ok = false ∧ biF v l false s = some R) ∨ (ok = true ∧ ∃ b, v a = some b ∧ biF v l (b && !decide (a ∈ s)) (addS a s) = some R) := by
  obtain ⟨r, h1, h2⟩ := Option.bind_eq_some_iff.1 h
  rcases addF_inv h1 with ⟨rfl, rfl⟩ | ⟨rfl, b, hb, rfl⟩
  · exact .inl ⟨rfl, h2⟩
  · exact .inr ⟨rfl, b, hb, h2⟩
theorem coF_inv {a : ByteArray} {l : List ByteArray} {ok : Bool} {R : Bool} (h : coF v (a :: l) ok = some R) :
    (ok = false ∧ coF v l false = some R) ∨ (ok = true ∧ ∃ b, v a = some b ∧ coF v l b = some R) := by
  rw [coF] at h
  split at h
  · next hk =>
    obtain ⟨b, h1, h2⟩ := Option.bind_eq_some_iff.1 h
    exact .inr ⟨hk, b, h1, h2⟩
  · next hk => exact .inl ⟨by simpa using hk, h⟩
theorem ovF_inv {a : S111} {l : List S111} {ok : Bool} {s : List ByteArray} {R : Bool × List ByteArray} (h : ovF v (a :: l) ok s = some R) :
    (ok = false ∧ ∃ q, coF v a.f1 false = some q ∧ ovF v l q s = some R) ∨
    (ok = true ∧ ∃ b q, v a.f0 = some b ∧ coF v a.f1 ((b && !decide (a.f0 ∈ s)) && (decide (1 ≤ (a.f1.length : Int)) && decide ((a.f1.length : Int) ≤ 8))) = some q ∧ ovF v l q (addS a.f0 s) = some R) := by
  obtain ⟨r, h1, h2⟩ := Option.bind_eq_some_iff.1 h
  obtain ⟨q, h3, h4⟩ := Option.bind_eq_some_iff.1 h2
  rcases addF_inv h1 with ⟨rfl, rfl⟩ | ⟨rfl, b, hb, rfl⟩
  · exact .inl ⟨rfl, q, h3, h4⟩
  · exact .inr ⟨rfl, b, q, hb, h3, h4⟩
theorem drop_in (l : List S119) (k : Nat) (h : k < l.length) : l.drop k = rd_T119 l (k : Int) :: l.drop (k + 1) := by
  rw [List.drop_eq_getElem_cons h]
  simp [rd_T119, h]
theorem drop_pr (l : List S122) (k : Nat) (h : k < l.length) : l.drop k = rd_T122 l (k : Int) :: l.drop (k + 1) := by
  rw [List.drop_eq_getElem_cons h]
  simp [rd_T122, h]
theorem drop_ov (l : List S111) (k : Nat) (h : k < l.length) : l.drop k = rd_T111 l (k : Int) :: l.drop (k + 1) := by
  rw [List.drop_eq_getElem_cons h]
  simp [rd_T111, h]
theorem drop_by (l : List ByteArray) (k : Nat) (h : k < l.length) : l.drop k = rdOf ByteArray.empty l (k : Int) :: l.drop (k + 1) := by
  rw [List.drop_eq_getElem_cons h]
  simp [rdOf, h]
end Go.Proofs.Ytgnklkmifcmlhaa.Q
