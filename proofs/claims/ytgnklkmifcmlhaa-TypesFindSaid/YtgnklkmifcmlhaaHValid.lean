/- Proved here: the contract of types.valid. Conditions: those that each theorem names. -/
import Derived.Test.YtgnklkmifcmlhaaHKit
import Derived.Test.YtgnklkmifcmlhaaHIdxTB
import Derived.Test.YtgnklkmifcmlhaaQ9
import Derived.Test.YtgnklkmifcmlhaaQ7
namespace Go.Proofs.Ytgnklkmifcmlhaa.Q
open Go.RowKit Go.Proofs.YtgnklkmifcmlhaaW.PrintWords Go.Proofs.YtgnklkmifcmlhaaW.PrintMore
set_option linter.unusedVariables false
set_option linter.unusedSimpArgs false

/-! ### valid -/
def oddBind (k : Nat) (x : S59) : Option Bool := (types_variable.f k x.f0).bind fun v => if v = true then (types_Check.f k x.f1.f0 x.f1.f1 x.f1.f2).bind fun e => some (decide (e ≠ 0)) else some true
theorem oddBind_le (k : Nat) (x : S59) : LeO (oddBind k x) (oddBind (k + 1) x) := by
  unfold oddBind
  exact LeO.bind (types_variable.mono _ _) (fun v => LeO.ite (LeO.bind (types_Check.mono _ _ _ _) (fun _ => LeO.refl _)) (LeO.refl _))

set_option maxHeartbeats 1000000 in
theorem valid1_pred (k : Nat) (x : S59) (b : Bool) (h : oddBind k x = some b) (w : World) : PredTB 98 #[] x b w := by
  intro W A c hb hl hC
  show Calls Try.prog 98 #[.agg #[.string x.f0, .bool x.f1.f0, .string x.f1.f1, .slice A x.f1.f2.length c]] W _
  cases hv : types_variable.f k x.f0 with
  | none => rw [oddBind, hv] at h; simp at h
  | some v =>
    rw [oddBind, hv] at h
    simp only [Option.bind_some] at h
    have hcv := fun W' => types_variable.calls k x.f0 v W' hv
    have HB := Aside0.mk hb
    clear hv hb
    cases v with
    | false =>
      simp only [Bool.false_eq_true, if_false, Option.some.injEq] at h
      subst h
      clear hl hC
      go_enter Try.func98, Try.ntmps98
      go_wp2_with (go_at_call 99; refine (hcv _).mono ?_; rintro e w1 ⟨rfl, ⟨m, rfl⟩⟩)
      go_ret
      exact ⟨rfl, pw_below_drewN (HB.out.alloc HB.out.size _) m⟩
    | true =>
      simp only [if_true] at h
      cases he : types_Check.f k x.f1.f0 x.f1.f1 x.f1.f2 with
      | none => rw [he] at h; simp at h
      | some e =>
        rw [he] at h
        simp only [Option.bind_some, Option.some.injEq] at h
        have hce := fun W' (hw : Below W.heap.size W W') => types_Check.calls k x.f1.f0 x.f1.f1 A c x.f1.f2 e W' (Kd.C_below hC hw) hl he
        have HH := Aside0.mk h
        clear he h hl hC
        by_cases hz : e = 0
        · obtain rfl := hz
          have h := HH.out
          simp at h
          subst h
          clear HH
          go_enter Try.func98, Try.ntmps98
          go_wp2_with (first | (go_at_call 99; refine (hcv _).mono ?_; rintro e w1 ⟨rfl, ⟨m, rfl⟩⟩) | (go_at_call 28; refine (hce _ (pw_below_drewN (below_one _) _)).mono ?_; rintro e w1 ⟨rfl, hb1⟩))
          go_ret
          exact ⟨rfl, HB.out.trans (below_step (pw_below_drewN (below_one _) _) hb1 |>.mono HB.out.size)⟩
        · have h := HH.out
          simp [hz] at h
          subst h
          have hz1 : (e != 0) = true := bne_iff_ne.mpr hz
          have hz2 : (e == 0) = false := beq_eq_false_iff_ne.mpr hz
          clear HH
          go_enter Try.func98, Try.ntmps98
          go_wp2_with (first | (go_at_call 99; refine (hcv _).mono ?_; rintro e w1 ⟨rfl, ⟨m, rfl⟩⟩) | (go_at_call 28; refine (hce _ (pw_below_drewN (below_one _) _)).mono ?_; rintro e w1 ⟨rfl, hb1⟩))
          go_ret
          exact ⟨rfl, HB.out.trans (below_step (pw_below_drewN (below_one _) _) hb1 |>.mono HB.out.size)⟩

def types_valid.f (k : Nat) (l0 : List S59) : Option Bool := (containsO (oddBind k) l0).bind fun b => some (!b)
theorem types_valid.mono : ∀ a0 k, LeO (types_valid.f k a0) (types_valid.f (k + 1) a0) := by
  intro a0 k
  unfold types_valid.f
  exact LeO.bind (containsO_le (oddBind_le k) _) (fun _ => LeO.refl _)

set_option maxHeartbeats 1000000 in
theorem types_valid.calls (k : Nat) (A0 : Option Addr) (c0 : Nat) (l0 : List (S59)) (r : Bool) (w : World) (hr0 : Kd.C k59 w A0 l0.length l0) (hc0 : l0.length ≤ c0) (h : types_valid.f k l0 = some r) :
    Calls Try.prog 57 #[.slice A0 l0.length c0] w fun e w' => e = .returned (.bool r) ∧ Below w.heap.size w w' := by
  cases hc : containsO (oddBind k) l0 with
  | none => rw [types_valid.f, hc] at h; simp at h
  | some b =>
    rw [types_valid.f, hc] at h
    simp only [Option.bind_some, Option.some.injEq] at h
    subst h
    have hcall := containsFunc_TB 98 #[] (enters_of Try.func98 (by kernel_rfl) rfl) (oddBind k) w A0 c0 l0 b hr0 (fun x _ b hx => valid1_pred k x b hx w) hc
    clear hc hr0 hc0
    go_enter Try.func57, Try.ntmps57
    go_wp2_with (go_at_call 97; refine hcall.mono ?_; rintro e w1 ⟨rfl, hb1⟩)
    go_ret
    exact ⟨rfl, hb1⟩
end Go.Proofs.Ytgnklkmifcmlhaa.Q
