/- Proved here: parts of the proof of a given statement (HRowTermsTyvars): contracts of the functions that it reaches, what they answer, and in the last text the statement itself. Conditions: those that each theorem names. -/
import Derived.Test.YtecplbgdalchdaaZTVX18
import Derived.Test.YtecplbgdalchdaaZTVX9
/- Proved here: a term's reading, opened. Conditions: those that each theorem names. -/
namespace Go.Proofs.Ytecplbgdalchdaa.Q
open Go.RowKit Go.Proofs.YtecplbgdalchdaaW.PrintWords Go.Proofs.YtecplbgdalchdaaW.PrintMore
set_option linter.unusedVariables false
set_option linter.unusedSimpArgs false

theorem opens_intm {H : Type} {enc : TypeId × Value → H} {P : Program} {W : World} {base : Nat} {spare : Nat → Bool} {held : Bool} {t : TypeId} {k : IntKind} (ht : P.underlying t = some (.int k)) (n : Nat) : Opens enc P W base spare held t ((Kd.int k).K W) (fun i => (Lit.int k i).wf = true) n := by
  intro fuel _ cs y h _
  obtain ⟨b, rfl, _, hw⟩ := DataW.trod_int ht h
  exact ⟨b, rfl, hw⟩
def wideMN (x : S27) : Prop := x.f1.size ≤ reachBytes ∧ wide x.f2 ∧ x.f4.length ≤ reachBytes ∧ (Lit.int .i64 x.f3).wf = true
def wideM (t : S27) : Prop := allM wideMN t
theorem wideMN_wd {x : S27} (h : wideMN x) : okS x.f1 ∧ wd x.f2 ∧ x.f4.length ≤ 4611686018427387904 ∧ -9223372036854775808 ≤ x.f3 ∧ x.f3 ≤ 9223372036854775807 := by
  have hr : reachBytes < 2 ^ 47 := reachBytes_lt
  obtain ⟨h1, h2, h3, h4⟩ := h
  have h5 : ((decide (IntKind.i64.min ≤ x.f3)) && (decide (x.f3 ≤ IntKind.i64.max))) = true := h4
  rw [Bool.and_eq_true, decide_eq_true_eq, decide_eq_true_eq] at h5
  have e1 : IntKind.i64.min = -9223372036854775808 := by decide
  have e2 : IntKind.i64.max = 9223372036854775807 := by decide
  rw [e1, e2] at h5
  exact ⟨by unfold okS; omega, wide_wd h2, by omega, h5.1, h5.2⟩
theorem wideM_wd {t : S27} (h : wideM t) : wdM t := allM_imp (fun x hx => wideMN_wd hx) t h
theorem len7m {α : Type} {cs : List α} (h : cs.length = 7) : ∃ a b c d e f g, cs = [a, b, c, d, e, f, g] := by
  match cs, h with
  | [a, b, c, d, e, f, g], _ => exact ⟨a, b, c, d, e, f, g, rfl⟩
set_option maxRecDepth 100000 in
theorem opens_term {H : Type} {enc : TypeId × Value → H} {W : World} {base : Nat} {spare : Nat → Bool} {held : Bool} : ∀ n, Opens enc Try.prog W base spare held 27 (k27.K W) wideM n
  | 0 => fun fuel hf cs y h _ => by
    obtain rfl : fuel = 0 := by omega
    simp [DataW.trod] at h
  | n + 1 => fun fuel hf cs y h hw => by
    obtain ⟨xs, m, rfl, rfl, hl, hxl, hat⟩ := DataW.trod_struct Try.underlying27 h
    obtain ⟨c0, c1, c2, c3, c4, c5, c6, rfl⟩ := len7m (hl.trans (by kernel_rfl))
    obtain ⟨k, hk, _⟩ := opens_field Try.underlying27 hxl hat hw 0 _ rfl (n := n) (by omega) (opens_intm (k := .u8) (by kernel_rfl) n)
    obtain ⟨s, hs, hs2⟩ := opens_field Try.underlying27 hxl hat hw 1 _ rfl (n := n) (by omega) (opens_string (by kernel_rfl) n)
    obtain ⟨y, hy, hy2⟩ := opens_field Try.underlying27 hxl hat hw 2 _ rfl (n := n) (by omega) (opens_type n)
    obtain ⟨i, hi, hi2⟩ := opens_field Try.underlying27 hxl hat hw 3 _ rfl (n := n) (by omega) (opens_intm (k := .i64) (by kernel_rfl) n)
    have hsl : Opens enc Try.prog W base spare held 25 ((Kd.slice 27 k27).K W) (fun l => l.length ≤ reachBytes ∧ ∀ x, x ∈ l → wideM x) n := by
      cases n with
      | zero =>
        intro fuel hf cs y h _
        obtain rfl : fuel = 0 := by omega
        simp [DataW.trod] at h
      | succ n => exact opens_slice Try.underlying25 (by kernel_rfl) (of_decide_eq_true (by kernel_rfl)) (opens_term n)
    obtain ⟨l, hsl2, hll, hlw⟩ := opens_field Try.underlying27 hxl hat hw 4 _ rfl (n := n) (by omega) hsl
    rw [show Try.prog.cellsOf _ = 1 by kernel_rfl] at hk hs hi hsl2
    rw [show Try.prog.cellsOf _ = 3 by kernel_rfl] at hy
    have hk' : [c0] = [Value.int .u8 k] := hk
    have hs' : [c1] = [Value.string s] := hs
    have hi' : [c5] = [Value.int .i64 i] := hi
    have hy' : k24.K W y [c2, c3, c4] := hy
    obtain ⟨A0, e0, he0, hle0, hC0⟩ := k24_open hy'
    obtain ⟨A, c, hc2, hlc, hC⟩ : ∃ A c, [c6] = [Value.slice A l.length c] ∧ l.length ≤ c ∧ k27.C W A l.length l := hsl2
    simp only [List.cons.injEq, and_true] at hk' hs' hi' hc2 he0
    obtain ⟨rfl, rfl, rfl⟩ := he0
    subst hk' hs' hi' hc2
    exact ⟨⟨k, s, y, i, l⟩, k27_mk W ⟨k, s, y, i, l⟩ hle0 hC0 hlc hC, (allM_eq _ _).2 ⟨⟨hs2, hy2, hll, hi2⟩, (allML_mem _ _).2 hlw⟩⟩
/-- An argument of the type. -/
theorem open_term {H : Type} {enc : TypeId × Value → H} {W : World} {base : Nat} {spare : Nat → Bool} {held : Bool} {v : Value} {d : DataW H} {ps : List MemPlace} (h : DataW.Trod enc Try.prog W base spare held 27 v d ps)
    (hw : ∀ q, q ∈ d.weights Try.prog 27 → q ≤ reachBytes) : ∃ (x : S27) (A : Option Addr) (c : Nat) (B : Option Addr) (e : Nat), v.cells.toList = [.int .u8 x.f0, .string x.f1, .bool x.f2.f0, .string x.f2.f1, .slice A x.f2.f2.length c, .int .i64 x.f3, .slice B x.f4.length e] ∧ RdM W x A c B e ∧ wideM x := by
  obtain ⟨fuel, hf⟩ := h
  obtain ⟨x, hK, hwd⟩ := opens_term fuel fuel (Nat.le_refl _) _ _ hf hw
  obtain ⟨A, c, B, e, he, hl, hC, hl2, hC2⟩ := k27_open hK
  exact ⟨x, A, c, B, e, he, ⟨⟨hC, hl⟩, hC2, hl2⟩, hwd⟩
end Go.Proofs.Ytecplbgdalchdaa.Q
