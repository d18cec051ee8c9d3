/- Proved here: the contracts of chapter 1 over trees that are read. Conditions: those that each theorem names. -/
import Derived.Test.YtgnklkmifcmlhaaHFun
import Derived.Test.YtgnklkmifcmlhaaHVars
import Derived.Test.YtgnklkmifcmlhaaHInstC
import Derived.Test.YtgnklkmifcmlhaaHMatchC
import Derived.Test.YtgnklkmifcmlhaaHSame
namespace Go.Proofs.Ytgnklkmifcmlhaa.Q
open Go.RowKit Go.Shelf Go.Proofs.YtgnklkmifcmlhaaW.PrintWords Go.Proofs.YtgnklkmifcmlhaaW.PrintMore
set_option linter.unusedVariables false
set_option linter.unusedSimpArgs false

/-- A value that reads as a tree. -/
def Tr (w : World) (a : Value) (t : S25) : Prop := ∃ A c, a = .agg #[.bool t.f0, .string t.f1, .slice A t.f2.length c] ∧ t.f2.length ≤ c ∧ k25.C w A t.f2.length t.f2
theorem Tr.later {w w' : World} {a : Value} {t : S25} (h : Tr w a t) (hb : Below w.heap.size w w') : Tr w' a t := by
  obtain ⟨A, c, rfl, hl, hC⟩ := h
  exact ⟨A, c, rfl, hl, Kd.C_below hC hb⟩
theorem nilC (A : Option Addr) (w : World) : k25.C w A ([] : List S25).length [] := ⟨rfl, by simp, fun h => absurd h (by simp)⟩
theorem nilB (A : Option Addr) (w : World) : k59.C w A ([] : List S59).length [] := ⟨rfl, by simp, fun h => absurd h (by simp)⟩
theorem Tr.leaf (v : Bool) (n : ByteArray) (w : World) : Tr w (.agg #[.bool v, .string n, .slice none 0 0]) ⟨v, n, []⟩ := ⟨none, 0, rfl, Nat.le_refl _, nilC _ _⟩
theorem Tr.of_WT {w : World} {ok : Nat → Prop} {b : Bool} {n : ByteArray} {v : Value} {l : List S25} (h : WT w ok v l) : Tr w (.agg #[.bool b, .string n, v]) ⟨b, n, l⟩ := by
  obtain ⟨A, c, rfl, hl, hC⟩ := h.reads
  exact ⟨A, c, rfl, hl, hC⟩
def Ret (w : World) (t : S25) (e : Ending) (w' : World) : Prop := ∃ r, e = .returned r ∧ Tr w' r t ∧ Below w.heap.size w w'
theorem fun_tr (x y : S25) (a b : Value) (w : World) (ha : Tr w a x) (hb : Tr w b y) (hx : szT x ≤ 5864062014805) (hy : szT y ≤ 5864062014805) : Calls Try.prog 36 #[a, b] w (Ret w ⟨false, funN, [x, y]⟩) := by
  obtain ⟨A, c, rfl, hc, hA⟩ := ha
  obtain ⟨B, d, rfl, hd, hB⟩ := hb
  refine (fun_calls x y A c B d w hA hc hB hd hx hy).mono ?_
  rintro e w' ⟨v, rfl, hT, hb⟩
  exact ⟨_, rfl, Tr.of_WT hT, hb⟩
def varsF (t : S25) : List ByteArray × Int := if chkB t = true then (varsL (preT t) [], 0) else ([], 10)
theorem vars_ev (t : S25) (hf : fit t) : Ev (fun k => types_Vars.f k t.f0 t.f1 t.f2) (varsF t) := by
  obtain ⟨tv, tn, tl⟩ := t
  simp only [types_Vars.f]
  refine Ev.bind (check_ev _ hf) ?_
  unfold varsF
  cases hc : chkB ⟨tv, tn, tl⟩ with
  | false => simp; exact Ev.pure _
  | true =>
    have hs := (chkB_sh hc).2.1
    simp
    rw [if_pos (show szT ⟨tv, tn, tl⟩ ≤ 8796093022208 by omega)]
    exact Ev.pure _
theorem vars_tr (t : S25) (a : Value) (w : World) (ha : Tr w a t) (hf : fit t) : Calls Try.prog 23 #[a] w fun e w' => ∃ A c, e = .returned (.tuple #[.slice A (varsF t).1.length c, .int .i64 (varsF t).2]) ∧ (varsF t).1.length ≤ c ∧ Kd.C Kd.string w' A (varsF t).1.length (varsF t).1 ∧ Below w.heap.size w w' := by
  obtain ⟨A, c, rfl, hc, hA⟩ := ha
  obtain ⟨k, hk⟩ := (vars_ev t hf).at
  refine (types_Vars.calls k t.f0 t.f1 A c t.f2 (varsF t).1 (varsF t).2 w hA hc hk).mono ?_
  rintro e w' ⟨v, rfl, hR, hb⟩
  obtain ⟨A2, c2, rfl, hl, hC⟩ := Kd.R_reads hR
  exact ⟨A2, c2, rfl, hl, hC, hb⟩
theorem inst_tr (s : List S59) (t : S25) (A0 : Option Addr) (c0 : Nat) (a : Value) (w : World) (hs : k59.C w A0 s.length s) (hc0 : s.length ≤ c0) (ha : Tr w a t) (hfs : ∀ b, b ∈ s → fitB b) (hft : fit t) :
    Calls Try.prog 16 #[.slice A0 s.length c0, a] w fun e w' => ∃ r, e = .returned (.tuple #[r, .int .i64 (instF s t).2]) ∧ Tr w' r (instF s t).1 ∧ Below w.heap.size w w' := by
  obtain ⟨A, c, rfl, hc, hA⟩ := ha
  refine (inst_walk A0 c0 s t A c w hs hc0 hA hc hfs hft).mono ?_
  rintro e w' ⟨v, rfl, hT, hb⟩
  exact ⟨_, rfl, Tr.of_WT hT, hb⟩
theorem match_tr (p t : S25) (s : List S59) (a b : Value) (D : Option Addr) (f : Nat) (w : World) (ha : Tr w a p) (hb : Tr w b t) (hD : k59.C w D s.length s) (hf : s.length ≤ f) (hfp : fit p) (hft : fit t) (hfs : ∀ b, b ∈ s → fitB b) (hsl : s.length ≤ 500000) :
    Calls Try.prog 20 #[a, b, .slice D s.length f] w (MatchRes w (matchF p t s)) := by
  obtain ⟨A, c, rfl, hc, hA⟩ := ha
  obtain ⟨B, d, rfl, hd, hB⟩ := hb
  exact match_walk p t s A c B d D f w hA hB hc hd hD hf hfp hft hfs hsl
theorem same_tr (x y : S25) (a b : Value) (w : World) (ha : Tr w a x) (hb : Tr w b y) : Calls Try.prog 35 #[a, b] w fun e w' => e = .returned (.bool (cmpT x y == 0)) ∧ Below w.heap.size w w' := by
  obtain ⟨A, c, rfl, hc, hA⟩ := ha
  obtain ⟨B, d, rfl, hd, hB⟩ := hb
  exact same_calls x y A c B d w hA hc hB hd
theorem cmp_tr (x y : S25) (a b : Value) (w : World) (ha : Tr w a x) (hb : Tr w b y) : Calls Try.prog 33 #[a, b] w fun e w' => e = .returned (.int .i64 (cmpT x y)) ∧ Below w.heap.size w w' := by
  obtain ⟨A, c, rfl, hc, hA⟩ := ha
  obtain ⟨B, d, rfl, hd, hB⟩ := hb
  exact compare_ok _ x y (Nat.le_refl _) A c B d w hA hc hB hd

/-! ### Literal rows -/
theorem lit_binds1 (W : World) (base : Nat) (hb : base ≤ W.heap.size) (a n : ByteArray) (v : Bool) : RowB (W.alloc (.cells #[.string a, .bool v, .string n, .slice none 0 0] 59)) base (.slice (some ⟨W.heap.size, 0, none⟩) 1 1) [⟨a, ⟨v, n, []⟩⟩] :=
  ⟨_, fun _ => .slice none 0 0, World.ownsRow_lit W _ 1 hb (by unfold maxLen; omega) rfl, fun j x hj => by
    match j, hj with
    | 0, hj => simp only [List.getElem?_cons_zero, Option.some.injEq] at hj; subst hj; exact ⟨rfl, rfl, rfl, rfl, .nil _ _⟩
    | j + 1, hj => simp at hj⟩
theorem lit_binds2 (W : World) (base : Nat) (hb : base ≤ W.heap.size) (a n a' n' : ByteArray) (v v' : Bool) :
    RowB (W.alloc (.cells #[.string a, .bool v, .string n, .slice none 0 0, .string a', .bool v', .string n', .slice none 0 0] 59)) base (.slice (some ⟨W.heap.size, 0, none⟩) 2 2) [⟨a, ⟨v, n, []⟩⟩, ⟨a', ⟨v', n', []⟩⟩] :=
  ⟨_, fun _ => .slice none 0 0, World.ownsRow_lit W _ 2 hb (by unfold maxLen; omega) rfl, fun j x hj => by
    match j, hj with
    | 0, hj => simp only [List.getElem?_cons_zero, Option.some.injEq] at hj; subst hj; exact ⟨rfl, rfl, rfl, rfl, .nil _ _⟩
    | 1, hj => simp only [List.getElem?_cons_succ, List.getElem?_cons_zero, Option.some.injEq] at hj; subst hj; exact ⟨rfl, rfl, rfl, rfl, .nil _ _⟩
    | j + 2, hj => simp at hj⟩
theorem RowB.C {w : World} {base : Nat} {A : Option Addr} {n c : Nat} {ys : List S59} (h : RowB w base (.slice A n c) ys) : k59.C w A ys.length ys := by
  obtain ⟨A', c', he, _, hC⟩ := h.reads
  simp only [Value.slice.injEq] at he
  rw [he.1]
  exact hC
theorem lit_strs2 (W : World) (a b : ByteArray) : Kd.C Kd.string (W.alloc (.cells #[.string a, .string b] 9)) (some ⟨W.heap.size, 0, none⟩) [a, b].length [a, b] :=
  ⟨rfl, by simp, fun _ => ⟨_, rfl, fun j p hj => by
    have hB := blk_new W (.cells #[.string a, .string b] 9)
    match j, hj with
    | 0, hj =>
      simp only [List.getElem?_cons_zero, Option.some.injEq] at hj
      subst hj
      refine ⟨[.string a], rfl, rfl, fun i u hu => ?_⟩
      match i, hu with
      | 0, hu => exact (blk_cell hB 0).trans hu
      | i + 1, hu => simp at hu
    | 1, hj =>
      simp only [List.getElem?_cons_succ, List.getElem?_cons_zero, Option.some.injEq] at hj
      subst hj
      refine ⟨[.string b], rfl, rfl, fun i u hu => ?_⟩
      match i, hu with
      | 0, hu => exact (blk_cell hB 1).trans hu
      | i + 1, hu => simp at hu
    | j + 2, hj => simp at hj⟩⟩
end Go.Proofs.Ytgnklkmifcmlhaa.Q
