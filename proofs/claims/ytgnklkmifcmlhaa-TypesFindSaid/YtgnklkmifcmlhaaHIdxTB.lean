/- Proved here: the contracts of slices.IndexFunc and slices.ContainsFunc over bindings. Conditions: those that each theorem names. -/
import Derived.Test.YtgnklkmifcmlhaaHKit
namespace Go.Proofs.Ytgnklkmifcmlhaa.Q
open Go.RowKit Go.Proofs.YtgnklkmifcmlhaaW.PrintWords Go.Proofs.YtgnklkmifcmlhaaW.PrintMore
set_option linter.unusedVariables false
set_option linter.unusedSimpArgs false

/-- What is asked of a predicate at one element: it reads, it may make memory. -/
def PredTB (g : Nat) (lb : Array Value) (x : S59) (b : Bool) (w : World) : Prop :=
  ∀ (W : World) (A3 : Option Addr) (c3 : Nat), Below w.heap.size w W → x.f1.f2.length ≤ c3 → k25.C W A3 x.f1.f2.length x.f1.f2 → Calls Try.prog g (#[.agg #[.string x.f0, .bool x.f1.f0, .string x.f1.f1, .slice A3 x.f1.f2.length c3]] ++ lb) W fun e W' => e = .returned (.bool b) ∧ Below w.heap.size w W'

set_option maxHeartbeats 1000000 in
set_option maxRecDepth 100000 in
theorem indexFunc_TB (g : Nat) (lb : Array Value) (eg : ∀ args w, (callFunc g args).run Try.prog w = .ok (.enter g args) w) (o : S59 → Option Bool) (w : World) (A : Option Addr) (c : Nat) (l : List S59) (r : Int)
    (hC : Kd.C k59 w A l.length l) (hp : ∀ x, x ∈ l → ∀ b, o x = some b → PredTB g lb x b w) (h : indexO o l 0 = some r) :
    Calls Try.prog 125 #[.slice A l.length c, .func (.func g) #[] lb] w fun e w' => e = .returned (.int .i64 r) ∧ Below w.heap.size w w' := by
  have hm : l.length ≤ 9223372036854775807 := hC.2.1
  have HC := Aside0.mk hC
  have HP := Aside0.mk hp
  have HI := Aside0.mk h
  clear hC hp h
  go_enter Try.func125, Try.ntmps125
  go_wp2
  go_loopg [5, 8] l.length (fun gg _ s8 wr => ∃ kk : Nat, kk ≤ l.length ∧ l.length - kk ≤ gg ∧ s8 = .int .i64 kk ∧ Aside0 (Below w.heap.size w wr) ∧ Aside0 (indexO o (l.drop kk) (kk : Int) = some r))
  case atStart => exact ⟨0, Nat.zero_le _, by omega, rfl, ⟨Below.refl _ w⟩, ⟨HI.out⟩⟩
  case round =>
    obtain ⟨kk, hkk, hg, rfl, HB, HA⟩ := hrel
    clear HI
    by_cases hlt : kk < l.length
    · have hltz : (kk : Int) < (l.length : Int) := by omega
      obtain ⟨ad, A3, c3, e1, hx0, hx1, hx2, hx3, hl3, hi3⟩ := at_T59 (Kd.C_below HC.out HB.out) (kk : Int) (by omega) hltz
      cases e1
      have hA := HA.out
      rw [drop_rd l z59 kk hlt] at hA
      have hmem : l.getD kk z59 ∈ l := getD_mem l z59 kk hlt
      have hP := HP.out _ hmem
      simp only [Int.toNat_natCast] at hx0 hx1 hx2 hx3
      have HX : Hid ((rd_T59 l kk) = l.getD kk z59) := rfl
      rw [← HX.out] at hA hP
      clear hmem HA HP
      simp only [indexO] at hA
      generalize rd_T59 l kk = x at *
      cases hq : o x with
      | none => rw [hq] at hA; simp at hA
      | some b =>
        rw [hq] at hA
        simp only [Option.bind_some] at hA
        have hcall := hP b hq wr A3 c3 HB.out hl3 hi3
        have HA := Aside0.mk hA
        clear hA hP hq hl3 hi3
        cases b with
        | true =>
          go_wp2_with (go_at_fn g; refine hcall.mono ?_; rintro e w' ⟨rfl, hb'⟩)
          go_ret
          have hA := HA.out
          simp only [if_true, Option.some.injEq] at hA
          exact ⟨by rw [← hA]; rfl, hb'⟩
        | false =>
          go_wp2_with (go_at_fn g; refine hcall.mono ?_; rintro e w' ⟨rfl, hb'⟩)
          go_roundg (l.length - (kk + 1))
          case measure => omega
          case rel =>
            have hA := HA.out
            simp only [Bool.false_eq_true, if_false] at hA
            exact ⟨kk + 1, by omega, by omega, by go_num, ⟨hb'⟩, ⟨by push_cast; exact hA⟩⟩
    · have hltz : ¬ (kk : Int) < (l.length : Int) := by omega
      go_wp2
      go_ret
      have hA := HA.out
      rw [List.drop_of_length_le (by omega)] at hA
      simp only [indexO, Option.some.injEq] at hA
      exact ⟨by rw [← hA]; rfl, HB.out⟩

set_option maxHeartbeats 1000000 in
theorem containsFunc_TB (g : Nat) (lb : Array Value) (eg : ∀ args w, (callFunc g args).run Try.prog w = .ok (.enter g args) w) (o : S59 → Option Bool) (w : World) (A : Option Addr) (c : Nat) (l : List S59) (r : Bool)
    (hC : Kd.C k59 w A l.length l) (hp : ∀ x, x ∈ l → ∀ b, o x = some b → PredTB g lb x b w) (h : containsO o l = some r) :
    Calls Try.prog 97 #[.slice A l.length c, .func (.func g) #[] lb] w fun e w' => e = .returned (.bool r) ∧ Below w.heap.size w w' := by
  obtain ⟨i, hi, hr⟩ := containsO_index h 0 (Int.le_refl 0)
  have hcall := indexFunc_TB g lb eg o w A c l i hC hp hi
  have hd : decide (0 ≤ i) = r := hr
  have HR := Aside0.mk hr
  clear hC hp h hi hd hr
  go_enter Try.func97, Try.ntmps97
  go_wp2_with (go_at_call 125; refine hcall.mono ?_; rintro e w' ⟨rfl, hb⟩)
  go_ret
  exact ⟨by rw [← HR.out]; rfl, hb⟩
end Go.Proofs.Ytgnklkmifcmlhaa.Q
