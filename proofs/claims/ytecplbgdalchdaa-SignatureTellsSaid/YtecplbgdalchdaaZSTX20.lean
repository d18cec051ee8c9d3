/- Proved here: parts of the proof of a given statement (HRowSignatureTells): contracts of the functions that it reaches, what they answer, and in the last text the statement itself. Conditions: those that each theorem names. -/
import Derived.Test.YtecplbgdalchdaaZSTX19
import Derived.Test.YtecplbgdalchdaaZSTX16
import Derived.Test.YtecplbgdalchdaaZSTX12
import Derived.Test.YtecplbgdalchdaaZSTX15
import Derived.Deep.Cut
/- Proved here: the law SignatureTells, walked. Conditions: those that each theorem names. -/
namespace Go.Proofs.Ytecplbgdalchdaa.Q
open Go.RowKit Go.Shelf Go.Proofs.YtecplbgdalchdaaW.PrintWords Go.Proofs.YtecplbgdalchdaaW.PrintMore
set_option linter.unusedVariables false
set_option linter.unusedSimpArgs false
attribute [local go_sem] Oper.semAt_some

theorem greatG_not2 {l0 : List S106} {l1 : List S108} (h : greatG l0 l1 = false) : l0.length ≤ 600 ∧ l1.length ≤ 600 ∧ ∀ x, x ∈ l1 → szT x.f1 ≤ 1500 := by
  unfold greatG at h
  simp only [Bool.or_eq_false_iff, decide_eq_false_iff_not] at h
  obtain ⟨h0, h1, h2, h3, h4⟩ := h
  refine ⟨by omega, by omega, fun x hx => ?_⟩
  rw [List.any_eq_false] at h3
  have := h3 x hx
  unfold bigC at this
  simp only [Bool.or_eq_true, not_or, Bool.not_eq_true] at this
  exact greatB_sz this.1
/-- The law's boxes. -/
abbrev TlS (w : World) (g9 gt gu gx : Nat) (v0 v1 v2 v3 v4 v5 v6 v7 v8 v9 v10 v11 v12 v13 : Value) (V W : World) : Prop :=
  W.cell? ⟨w.heap.size, 0, none⟩ = some v0 ∧ W.cell? ⟨w.heap.size, 1, none⟩ = some v1 ∧ W.cell? ⟨w.heap.size + 1, 0, none⟩ = some v2 ∧ W.cell? ⟨w.heap.size + 1, 1, none⟩ = some v3 ∧ W.cell? ⟨g9, 0, none⟩ = some v4 ∧ W.cell? ⟨g9, 1, none⟩ = some v5 ∧
    W.cell? ⟨gt, 0, none⟩ = some v6 ∧ W.cell? ⟨gt, 1, none⟩ = some v7 ∧ W.cell? ⟨gt, 2, none⟩ = some v8 ∧ W.cell? ⟨gu, 0, none⟩ = some v9 ∧ W.cell? ⟨gu, 1, none⟩ = some v10 ∧ W.cell? ⟨gu, 2, none⟩ = some v11 ∧ W.cell? ⟨gx, 0, none⟩ = some v12 ∧ W.cell? ⟨gx, 1, none⟩ = some v13 ∧ Below V.heap.size V W
section
variable {w V W W' : World} {g9 gt gu gx : Nat} {v0 v1 v2 v3 v4 v5 v6 v7 v8 v9 v10 v11 v12 v13 : Value}
theorem TlS.step (h : TlS w g9 gt gu gx v0 v1 v2 v3 v4 v5 v6 v7 v8 v9 v10 v11 v12 v13 V W) (hb : Below W.heap.size W W') : TlS w g9 gt gu gx v0 v1 v2 v3 v4 v5 v6 v7 v8 v9 v10 v11 v12 v13 V W' := by
  obtain ⟨h0, h1, h2, h3, h4, h5, h6, h7, h8, h9, h10, h11, h12, h13, h14⟩ := h
  exact ⟨pw_cell_below hb h0, pw_cell_below hb h1, pw_cell_below hb h2, pw_cell_below hb h3, pw_cell_below hb h4, pw_cell_below hb h5, pw_cell_below hb h6, pw_cell_below hb h7, pw_cell_below hb h8, pw_cell_below hb h9, pw_cell_below hb h10, pw_cell_below hb h11, pw_cell_below hb h12, pw_cell_below hb h13, below_step h14 hb⟩
theorem TlS.below (h : TlS w g9 gt gu gx v0 v1 v2 v3 v4 v5 v6 v7 v8 v9 v10 v11 v12 v13 V W) : Below V.heap.size V W := h.2.2.2.2.2.2.2.2.2.2.2.2.2.2
end
set_option maxHeartbeats 4000000 in
set_option maxRecDepth 100000 in
theorem law_sigtells (l0 : List S106) (A0 : Option Addr) (c0 : Nat) (l1 : List S108) (A1 : Option Addr) (c1 : Nat) (m0 : List S106) (B0 : Option Addr) (d0 : Nat) (m1 : List S108) (B1 : Option Addr) (d1 : Nat) (name : ByteArray) (w : World)
    (hr0 : Kd.C k106 w A0 l0.length l0) (hc0 : l0.length ≤ c0) (hr1 : Kd.C k108 w A1 l1.length l1) (hc1 : l1.length ≤ c1) (h0 : ∀ x, x ∈ l0 → okS x.f0) (h1 : ∀ x, x ∈ l1 → okS x.f0 ∧ wd x.f1)
    (hs0 : Kd.C k106 w B0 m0.length m0) (hd0 : m0.length ≤ d0) (hs1 : Kd.C k108 w B1 m1.length m1) (hd1 : m1.length ≤ d1) (k0 : ∀ x, x ∈ m0 → okS x.f0) (k1 : ∀ x, x ∈ m1 → okS x.f0 ∧ wd x.f1) (hnm : okS name) :
    Calls Try.prog 13 #[.agg #[.slice A0 l0.length c0, .slice A1 l1.length c1], .agg #[.slice B0 m0.length d0, .slice B1 m1.length d1], .string name] w fun e w' => e = .returned (.bool true) ∧ Below w.heap.size w w' := by
  obtain ⟨kg, hkg⟩ := (greatg_ev l0 l1 (fun x hx => (h1 x hx).2)).at
  obtain ⟨kh, hkh⟩ := (greatg_ev m0 m1 (fun x hx => (k1 x hx).2)).at
  have hgs := fun W (hw : XtS w (.slice A0 l0.length c0) (.slice A1 l1.length c1) (.slice B0 m0.length d0) (.slice B1 m1.length d1) W) => (sequentref04_Great.calls kg A0 c0 l0 A1 c1 l1 _ W (Kd.C_below hr0 hw.below) hc0 (Kd.C_below hr1 hw.below) hc1 hkg).mono (fun _ _ h => And.intro h.1 (hw.step h.2))
  have hgo := fun W (hw : XtS w (.slice A0 l0.length c0) (.slice A1 l1.length c1) (.slice B0 m0.length d0) (.slice B1 m1.length d1) W) => (sequentref04_Great.calls kh B0 d0 m0 B1 d1 m1 _ W (Kd.C_below hs0 hw.below) hd0 (Kd.C_below hs1 hw.below) hd1 hkh).mono (fun _ _ h => And.intro h.1 (hw.step h.2))
  have hS0 := XtS.start w (.slice A0 l0.length c0) (.slice A1 l1.length c1) (.slice B0 m0.length d0) (.slice B1 m1.length d1)
  obtain ⟨x0, x1, x2, x3, x4⟩ := id hS0
  clear hkg hkh
  cases hgX : greatG l0 l1 with
  | true =>
    rw [hgX] at hgs
    clear hgo hr0 hr1 h0 h1 hs0 hs1 k0 k1 hnm
    go_enter Try.func13, Try.ntmps13
    go_wp2_with (go_at_call 69; (with_reducible refine (hgs _ hS0).mono ?_); rintro e W1 ⟨rfl, hN⟩)
    go_ret
    exact ⟨rfl, hN.below⟩
  | false =>
  rw [hgX] at hgs
  cases hgT : greatG m0 m1 with
  | true =>
    rw [hgT] at hgo
    clear hr0 hr1 h0 h1 hs0 hs1 k0 k1 hnm
    go_enter Try.func13, Try.ntmps13
    go_wp2_with (first
      | (go_at_call 69; (with_reducible refine (hgo _ hN).mono ?_); rintro e W2 ⟨rfl, hN2⟩)
      | (go_at_call 69; (with_reducible refine (hgs _ hS0).mono ?_); rintro e W1 ⟨rfl, hN⟩; obtain ⟨x0, x1, x2, x3, x4⟩ := id hN))
    go_ret
    exact ⟨rfl, hN2.below⟩
  | false =>
  rw [hgT] at hgo
  by_cases hsz : (name.size : Int) > 1000
  · have hs1' : decide ((name.size : Int) > 1000) = true := decide_eq_true hsz
    clear hr0 hr1 h0 h1 hs0 hs1 k0 k1 hnm
    go_enter Try.func13, Try.ntmps13
    go_wp2_with (first
      | (go_at_call 69; (with_reducible refine (hgo _ hN).mono ?_); rintro e W2 ⟨rfl, hN2⟩)
      | (go_at_call 69; (with_reducible refine (hgs _ hS0).mono ?_); rintro e W1 ⟨rfl, hN⟩; obtain ⟨x0, x1, x2, x3, x4⟩ := id hN))
    go_ret
    exact ⟨rfl, hN2.below⟩
  have hs1' : decide ((name.size : Int) > 1000) = false := decide_eq_false hsz
  obtain ⟨z0, z1, z2⟩ := greatG_not2 hgX
  obtain ⟨z3, z4, z5⟩ := greatG_not2 hgT
  have hf1 : ∀ x, x ∈ l1 → okS x.f0 ∧ fit x.f1 := fun x hx => ⟨(h1 x hx).1, fit_of_wd (h1 x hx).2 (by have := z2 x hx; omega)⟩
  have hzz : ∀ x, x ∈ l1 → szT x.f1 < 2932031007402 := fun x hx => by have := z2 x hx; omega
  have hzm : ∀ x, x ∈ m1 → szT x.f1 < 2932031007402 := fun x hx => by have := z5 x hx; omega
  obtain ⟨k2, hk2⟩ := (twing_ev l0 l1 (by omega) (by omega) hzz).at
  have htw := fun W (hw : XtS w (.slice A0 l0.length c0) (.slice A1 l1.length c1) (.slice B0 m0.length d0) (.slice B1 m1.length d1) W) => sequentref04_Twin.calls k2 A0 c0 l0 A1 c1 l1 _ _ W (Kd.C_below hr0 hw.below) hc0 (Kd.C_below hr1 hw.below) hc1 hk2
  have H0 := Aside0.mk hr0
  have H1 := Aside0.mk hr1
  have K0 := Aside0.mk hs0
  have K1 := Aside0.mk hs1
  have Hh := Aside0.mk h0
  have Hf := Aside0.mk hf1
  have HZ := Aside0.mk hzz
  have HM := Aside0.mk hzm
  have HN := Aside0.mk hnm
  have HSZ := Aside0.mk (And.intro (And.intro z0 z1) (And.intro z3 z4))
  clear hr0 hr1 hs0 hs1 h0 h1 k0 k1 hf1 hzz hzm z0 z1 z2 z3 z4 z5 hnm hk2 hgX hgT hsz
  go_enter Try.func13, Try.ntmps13
  go_upto_region 4 with (first
    | (go_at_call 70; (with_reducible refine (htw _ hN).mono ?_); rintro e W3 ⟨u0, u1, rfl, hR0, hR1, hb3⟩; obtain ⟨As, cs, hs0, hcs, hCs⟩ := Kd.R_reads hR0; subst hs0; obtain ⟨At, ct, hst, hct, hCt⟩ := Kd.R_reads hR1; subst hst; have hN3 := hN.step hb3)
    | (go_at_call 69; (with_reducible refine (hgo _ hN).mono ?_); rintro e W2 ⟨rfl, hN⟩; obtain ⟨x0, x1, x2, x3, x4⟩ := id hN)
    | (go_at_call 69; (with_reducible refine (hgs _ hS0).mono ?_); rintro e W1 ⟨rfl, hN⟩; obtain ⟨x0, x1, x2, x3, x4⟩ := id hN))
  have hb4 := below_one (w := W3) (.cells #[.slice As l0.length cs, .slice At l1.length ct] 94)
  have B9 := blk_new W3 (.cells #[.slice As l0.length cs, .slice At l1.length ct] 94)
  have hN4 := hN3.step hb4
  have hC4s := Kd.C_below hCs hb4
  have hC4t := Kd.C_below hCt hb4
  clear hgs hgo htw hS0 hN hN3 hCs hCt hR0 hR1 hb3 hb4 x0 x1 x2 x3 x4
  generalize W3.alloc (.cells #[.slice As l0.length cs, .slice At l1.length ct] 94) = W4 at *
  generalize W3.heap.size = g9 at *
  have hcl : ∀ W, Below W4.heap.size W4 W → W.cell? ⟨w.heap.size, 0, none⟩ = some (.slice A0 l0.length c0) ∧ W.cell? ⟨w.heap.size, 1, none⟩ = some (.slice A1 l1.length c1) ∧ W.cell? ⟨w.heap.size + 1, 0, none⟩ = some (.slice B0 m0.length d0) ∧ W.cell? ⟨w.heap.size + 1, 1, none⟩ = some (.slice B1 m1.length d1) ∧ W.cell? ⟨g9, 0, none⟩ = some (.slice As l0.length cs) ∧ W.cell? ⟨g9, 1, none⟩ = some (.slice At l1.length ct) := fun W hw => by
    obtain ⟨o0, o1, _, _⟩ := box2k B9
    exact ⟨pw_cell_below hw hN4.1, pw_cell_below hw hN4.2.1, pw_cell_below hw hN4.2.2.1, pw_cell_below hw hN4.2.2.2.1, pw_cell_below hw o0, pw_cell_below hw o1⟩
  have hbw := hN4.below
  have RA := fun W (hw : Below W4.heap.size W4 W) => Kd.C_below H0.out (below_step hbw hw)
  have RB := fun W (hw : Below W4.heap.size W4 W) => Kd.C_below H1.out (below_step hbw hw)
  have RC := fun W (hw : Below W4.heap.size W4 W) => Kd.C_below K0.out (below_step hbw hw)
  have RD := fun W (hw : Below W4.heap.size W4 W) => Kd.C_below K1.out (below_step hbw hw)
  have RS := fun W (hw : Below W4.heap.size W4 W) => Kd.C_below hC4s hw
  have RT := fun W (hw : Below W4.heap.size W4 W) => Kd.C_below hC4t hw
  obtain ⟨⟨z0, z1⟩, z3, z4⟩ := HSZ.out
  have z0' : l0.length ≤ 100000 := by omega
  have z1' : l1.length ≤ 100000 := by omega
  obtain ⟨q1, hq1⟩ := (sigtypeop_ev l0 l1 name (by omega)).at
  obtain ⟨q2, hq2⟩ := (typeop_ev l0 l1 name (by omega)).at
  obtain ⟨q3, hq3⟩ := (constg_ev l0 l1 z1' name HZ.out).at
  obtain ⟨q4, hq4⟩ := (refchk_ev l0 l1 z0' z1' Hh.out Hf.out).at
  obtain ⟨q5, hq5⟩ := (refext_ev l0 l1 m0 m1 (by omega) (by omega) (by omega) (by omega) HZ.out).at
  obtain ⟨q6, hq6⟩ := (refsame_ev l0 l1 m0 m1 (by omega) (by omega) (by omega) (by omega) HZ.out HM.out).at
  obtain ⟨q7, hq7⟩ := (samesig_ev l0 l1 z0' z1' HZ.out).at
  obtain ⟨q8, hq8⟩ := (samesig_ev iniO iniC (by decide) (by decide) (by decide)).at
  have hzc : ∀ x, x ∈ l1 → szT x.f1 ≤ 5864062014805 := fun x hx => by have := HZ.out x hx; omega
  have hzl : ∀ x, x ∈ l1 → szL x.f1.f2 < 5864062014805 := fun x hx => by have := HZ.out x hx; have := szT_eq' x.f1; omega
  have hcr : szT ⟨(toC (lkC name l1)).1, (toC (lkC name l1)).2.1, (toC (lkC name l1)).2.2.1⟩ ≤ 4611686018427387904 := by
    have hm : ∀ l : List S108, (∀ x, x ∈ l → szT x.f1 < 2932031007402) → szT ⟨(toC (lkC name l)).1, (toC (lkC name l)).2.1, (toC (lkC name l)).2.2.1⟩ ≤ 4611686018427387904 := by
      intro l
      induction l with
      | nil => intro _; simp [lkC, toC, szT, szL]
      | cons a l ih =>
        intro h
        rw [lkC]
        split
        · have := h a (by simp)
          show szT ⟨a.f1.f0, a.f1.f1, a.f1.f2⟩ ≤ _
          rw [etaT]
          omega
        · exact ih (fun x hx => h x (by simp [hx]))
    exact hm l1 HZ.out
  obtain ⟨q9, hq9⟩ := (same_ev ⟨(toC (lkC name l1)).1, (toC (lkC name l1)).2.1, (toC (lkC name l1)).2.2.1⟩ ⟨(toC (lkC name l1)).1, (toC (lkC name l1)).2.1, (toC (lkC name l1)).2.2.1⟩ hcr).at
  have e1 := fun W (hw : Below W4.heap.size W4 W) => (signature_TypeOp.calls q1 As cs l0 At ct l1 name (toR (lkO name l0)).1 (toR (lkO name l0)).2 W (RS W hw) hcs (RT W hw) hct hq1).mono (fun _ _ h => And.intro h.1 (below_step hw h.2))
  have e2 := fun W (hw : Below W4.heap.size W4 W) => (sequentref04_TypeOp.calls q2 A0 c0 l0 A1 c1 l1 name (toR (lkO name l0)).1 (toR (lkO name l0)).2 W (RA W hw) hc0 (RB W hw) hc1 hq2).mono (fun _ _ h => And.intro h.1 (below_step hw h.2))
  have e3 := fun W (hw : Below W4.heap.size W4 W) => sigconst_calls As cs l0 At ct l1 name W (RT W hw) hzc
  have e4 := fun W (hw : Below W4.heap.size W4 W) => sequentref04_Const.calls q3 A0 c0 l0 A1 c1 l1 name (toC (lkC name l1)).1 (toC (lkC name l1)).2.1 (toC (lkC name l1)).2.2.1 (toC (lkC name l1)).2.2.2 W (RA W hw) hc0 (RB W hw) hc1 hq3
  have e5 := fun W (hw : Below W4.heap.size W4 W) => sigtwin_calls As cs l0 At ct l1 W4 W hw hC4s hcs hC4t hct z0' z1' hzl
  have e6 := fun W (hw : Below W4.heap.size W4 W) => sigCheck_calls As cs l0 At ct l1 W (RS W hw) hcs (RT W hw) hct Hh.out Hf.out
  have e7 := fun W (hw : Below W4.heap.size W4 W) => sequentref04_Check.calls q4 A0 c0 l0 A1 c1 l1 _ W (RA W hw) hc0 (RB W hw) hc1 hq4
  have e8 := fun W (hw : Below W4.heap.size W4 W) => extends_calls As cs l0 At ct l1 B0 d0 m0 B1 d1 m1 W (RS W hw) hcs (RT W hw) hct (RC W hw) hd0 (RD W hw) hd1 ⟨by omega, by omega⟩
  have e9 := fun W (hw : Below W4.heap.size W4 W) => sequentref04_Extends.calls q5 A0 c0 l0 A1 c1 l1 B0 d0 m0 B1 d1 m1 _ W (RA W hw) hc0 (RB W hw) hc1 (RC W hw) hd0 (RD W hw) hd1 hq5
  have e10 := fun W (hw : Below W4.heap.size W4 W) => sigsame_calls As cs l0 At ct l1 B0 d0 m0 B1 d1 m1 W (RS W hw) hcs (RT W hw) hct (RC W hw) hd0 (RD W hw) hd1 ⟨by omega, by omega⟩
  have e11 := fun W (hw : Below W4.heap.size W4 W) => sequentref04_Same.calls q6 A0 c0 l0 A1 c1 l1 B0 d0 m0 B1 d1 m1 _ W (RA W hw) hc0 (RB W hw) hc1 (RC W hw) hd0 (RD W hw) hd1 hq6
  have e12 := fun W (hw : Below W4.heap.size W4 W) => sequentref04_Same.calls q7 As cs l0 At ct l1 A0 c0 l0 A1 c1 l1 true W (RS W hw) hcs (RT W hw) hct (RA W hw) hc0 (RB W hw) hc1 hq7
  have hcs_ := cmpT_self (⟨(toC (lkC name l1)).1, (toC (lkC name l1)).2.1, (toC (lkC name l1)).2.2.1⟩ : S24)
  clear hq1 hq2 hq3 hq4 hq5 hq6 hzc hzl hcr H0 H1 K0 K1 Hh Hf HZ HM HN HSZ z0 z1 z3 z4
  generalize sigE l0 l1 = ee at *
  generalize extB l0 l1 m0 m1 = xb at *
  generalize sameB l0 l1 m0 m1 = sb at *
  generalize toR (lkO name l0) = tr at *
  generalize hcc : lkC name l1 = cr at *
  obtain ⟨p0, p1, p2, p3, p4, p5⟩ := hcl W4 (Below.refl _ _)
  clear hcc
  go_upto_region 9 with (first
    | (go_at_call 75; (with_reducible refine (e5 _ hb10).mono ?_); rintro e W11 ⟨u0, u1, rfl, hSX⟩; obtain ⟨Av, cv, hvv, hcv, hCv⟩ := Kd.N_reads hSX.1; subst hvv; obtain ⟨Aw, cw, hvw, hcw, hCw⟩ := Kd.N_reads hSX.2.1; subst hvw; have hq10 := below_step hSX.2.2 (below_one (w := W11) (.cells #[.slice Av l0.length cv, .slice Aw l1.length cw] 94)); have hb12 := below_step hb10 hq10; have BX := blk_new W11 (.cells #[.slice Av l0.length cv, .slice Aw l1.length cw] 94))
    | (go_at_call 74; (with_reducible refine (e4 _ hb8).mono ?_); rintro e W9 ⟨v, rfl, hR9, hb9⟩; obtain ⟨Ay, cy, hvy, hcy, hCy⟩ := Kd.R_reads hR9; subst hvy; have hq8 := below_step hb9 (below_one (w := W9) (.cells #[.bool (toC cr).1, .string (toC cr).2.1, .slice Ay (toC cr).2.2.1.length cy] 24)); have hb10 := below_step hb8 hq8; have BU := blk_new W9 (.cells #[.bool (toC cr).1, .string (toC cr).2.1, .slice Ay (toC cr).2.2.1.length cy] 24); obtain ⟨p0, p1, p2, p3, p4, p5⟩ := hcl _ hb10)
    | (go_at_call 73; (with_reducible refine (e3 _ hb6).mono ?_); rintro e W7 ⟨v, rfl, hT7, hb7⟩; obtain ⟨Ax, cx, hvx, hcx, hCx⟩ := hT7.reads; subst hvx; have hq6 := below_step hb7 (below_one (w := W7) (.cells #[.bool (toC cr).1, .string (toC cr).2.1, .slice Ax (toC cr).2.2.1.length cx] 24)); have hb8 := below_step hb6 hq6; have BT := blk_new W7 (.cells #[.bool (toC cr).1, .string (toC cr).2.1, .slice Ax (toC cr).2.2.1.length cx] 24); obtain ⟨p0, p1, p2, p3, p4, p5⟩ := hcl _ hb8)
    | (go_at_call 72; (with_reducible refine (e2 _ hb5).mono ?_); rintro e W6 ⟨rfl, hb6⟩; obtain ⟨p0, p1, p2, p3, p4, p5⟩ := hcl _ hb6)
    | (go_at_call 71; (with_reducible refine (e1 _ (Below.refl _ _)).mono ?_); rintro e W5 ⟨rfl, hb5⟩; obtain ⟨p0, p1, p2, p3, p4, p5⟩ := hcl _ hb5))
  have ht12 := below_step hq8 hq10
  have hx12 := Kd.C_below (Kd.C_below hCx (below_one (w := W7) (.cells #[.bool (toC cr).1, .string (toC cr).2.1, .slice Ax (toC cr).2.2.1.length cx] 24))) ht12
  have hy12 := Kd.C_below (Kd.C_below hCy (below_one (w := W9) (.cells #[.bool (toC cr).1, .string (toC cr).2.1, .slice Ay (toC cr).2.2.1.length cy] 24))) hq10
  have hv12 := Kd.C_below hCv (below_one (w := W11) (.cells #[.slice Av l0.length cv, .slice Aw l1.length cw] 94))
  have hw12 := Kd.C_below hCw (below_one (w := W11) (.cells #[.slice Av l0.length cv, .slice Aw l1.length cw] 94))
  have rt12 := ((strrow_WT (base := W4.heap.size) hT7 (fun k hk => Nat.le_trans hb6.size hk)).later (below_one (w := W7) (.cells #[.bool (toC cr).1, .string (toC cr).2.1, .slice Ax (toC cr).2.2.1.length cx] 24))).later ht12
  have rv12 := ((strrow_TO hSX.1).lower hb10.size).later (below_one (w := W11) (.cells #[.slice Av l0.length cv, .slice Aw l1.length cw] 94))
  have rw12 := ((strrow_CO hSX.2.1).lower hb10.size).later (below_one (w := W11) (.cells #[.slice Av l0.length cv, .slice Aw l1.length cw] 94))
  have BT12 := blk_below BT ht12
  have BU12 := blk_below BU hq10
  have hS12 : TlS w g9 W7.heap.size W9.heap.size W11.heap.size (.slice A0 l0.length c0) (.slice A1 l1.length c1) (.slice B0 m0.length d0) (.slice B1 m1.length d1) (.slice As l0.length cs) (.slice At l1.length ct) (.bool (toC cr).1) (.string (toC cr).2.1) (.slice Ax (toC cr).2.2.1.length cx) (.bool (toC cr).1) (.string (toC cr).2.1) (.slice Ay (toC cr).2.2.1.length cy) (.slice Av l0.length cv) (.slice Aw l1.length cw) (W11.alloc (.cells #[.slice Av l0.length cv, .slice Aw l1.length cw] 94)) (W11.alloc (.cells #[.slice Av l0.length cv, .slice Aw l1.length cw] 94)) := by
    obtain ⟨p0, p1, p2, p3, p4, p5⟩ := hcl _ hb12
    obtain ⟨y0, y1, y2, _⟩ := box3s BT12
    obtain ⟨u0, u1, u2, _⟩ := box3s BU12
    obtain ⟨x0, x1, _, _⟩ := box2k BX
    exact ⟨p0, p1, p2, p3, p4, p5, y0, y1, y2, u0, u1, u2, x0, x1, Below.refl _ _⟩
  clear hT7 hR9 hSX hCx hCy hCv hCw BU BU12 hq6 hq8 hq10 hb5 hb7 hb9 hb8 hb10 ht12 e1 e2 e3 e4 e5 p0 p1 p2 p3 p4 p5 BT hb6
  generalize W11.alloc (.cells #[.slice Av l0.length cv, .slice Aw l1.length cw] 94) = W12 at *
  generalize W11.heap.size = gx at *
  generalize W9.heap.size = gu at *
  generalize W7.heap.size = gt at *
  have hq9' : sequentref01_Same.f q9 (toC cr).1 (toC cr).2.1 (toC cr).2.2.1 (toC cr).1 (toC cr).2.1 (toC cr).2.2.1 = some true := by rw [hcs_] at hq9; exact hq9
  have f6 := fun W (hw : TlS w g9 gt gu gx (.slice A0 l0.length c0) (.slice A1 l1.length c1) (.slice B0 m0.length d0) (.slice B1 m1.length d1) (.slice As l0.length cs) (.slice At l1.length ct) (.bool (toC cr).1) (.string (toC cr).2.1) (.slice Ax (toC cr).2.2.1.length cx) (.bool (toC cr).1) (.string (toC cr).2.1) (.slice Ay (toC cr).2.2.1.length cy) (.slice Av l0.length cv) (.slice Aw l1.length cw) W12 W) => (e6 W (below_step hb12 hw.below)).mono (fun _ _ h => And.intro h.1 (hw.step h.2))
  have f7 := fun W (hw : TlS w g9 gt gu gx (.slice A0 l0.length c0) (.slice A1 l1.length c1) (.slice B0 m0.length d0) (.slice B1 m1.length d1) (.slice As l0.length cs) (.slice At l1.length ct) (.bool (toC cr).1) (.string (toC cr).2.1) (.slice Ax (toC cr).2.2.1.length cx) (.bool (toC cr).1) (.string (toC cr).2.1) (.slice Ay (toC cr).2.2.1.length cy) (.slice Av l0.length cv) (.slice Aw l1.length cw) W12 W) => (e7 W (below_step hb12 hw.below)).mono (fun _ _ h => And.intro h.1 (hw.step h.2))
  have f9 := fun W (hw : TlS w g9 gt gu gx (.slice A0 l0.length c0) (.slice A1 l1.length c1) (.slice B0 m0.length d0) (.slice B1 m1.length d1) (.slice As l0.length cs) (.slice At l1.length ct) (.bool (toC cr).1) (.string (toC cr).2.1) (.slice Ax (toC cr).2.2.1.length cx) (.bool (toC cr).1) (.string (toC cr).2.1) (.slice Ay (toC cr).2.2.1.length cy) (.slice Av l0.length cv) (.slice Aw l1.length cw) W12 W) => (sequentref01_Same.calls q9 (toC cr).1 (toC cr).2.1 Ax cx (toC cr).2.2.1 (toC cr).1 (toC cr).2.1 Ay cy (toC cr).2.2.1 true W (Kd.C_below hx12 hw.below) hcx (Kd.C_below hy12 hw.below) hcy hq9').mono (fun _ _ h => And.intro h.1 (hw.step h.2))
  have f12 := fun W (hw : TlS w g9 gt gu gx (.slice A0 l0.length c0) (.slice A1 l1.length c1) (.slice B0 m0.length d0) (.slice B1 m1.length d1) (.slice As l0.length cs) (.slice At l1.length ct) (.bool (toC cr).1) (.string (toC cr).2.1) (.slice Ax (toC cr).2.2.1.length cx) (.bool (toC cr).1) (.string (toC cr).2.1) (.slice Ay (toC cr).2.2.1.length cy) (.slice Av l0.length cv) (.slice Aw l1.length cw) W12 W) => (sequentref04_Same.calls q7 Av cv l0 Aw cw l1 A0 c0 l0 A1 c1 l1 true W (Kd.C_below hv12 hw.below) hcv (Kd.C_below hw12 hw.below) hcw (RA W (below_step hb12 hw.below)) hc0 (RB W (below_step hb12 hw.below)) hc1 hq7).mono (fun _ _ h => And.intro h.1 (hw.step h.2))
  have g8 := fun W (hw : TlS w g9 gt gu gx (.slice A0 l0.length c0) (.slice A1 l1.length c1) (.slice B0 m0.length d0) (.slice B1 m1.length d1) (.slice As l0.length cs) (.slice At l1.length ct) (.bool (toC cr).1) (.string (toC cr).2.1) (.slice Ax (toC cr).2.2.1.length cx) (.bool (toC cr).1) (.string (toC cr).2.1) (.slice Ay (toC cr).2.2.1.length cy) (.slice Av l0.length cv) (.slice Aw l1.length cw) W12 W) => (e8 W (below_step hb12 hw.below)).mono (fun _ _ h => And.intro h.1 (hw.step h.2))
  have g9' := fun W (hw : TlS w g9 gt gu gx (.slice A0 l0.length c0) (.slice A1 l1.length c1) (.slice B0 m0.length d0) (.slice B1 m1.length d1) (.slice As l0.length cs) (.slice At l1.length ct) (.bool (toC cr).1) (.string (toC cr).2.1) (.slice Ax (toC cr).2.2.1.length cx) (.bool (toC cr).1) (.string (toC cr).2.1) (.slice Ay (toC cr).2.2.1.length cy) (.slice Av l0.length cv) (.slice Aw l1.length cw) W12 W) => (e9 W (below_step hb12 hw.below)).mono (fun _ _ h => And.intro h.1 (hw.step h.2))
  have g10 := fun W (hw : TlS w g9 gt gu gx (.slice A0 l0.length c0) (.slice A1 l1.length c1) (.slice B0 m0.length d0) (.slice B1 m1.length d1) (.slice As l0.length cs) (.slice At l1.length ct) (.bool (toC cr).1) (.string (toC cr).2.1) (.slice Ax (toC cr).2.2.1.length cx) (.bool (toC cr).1) (.string (toC cr).2.1) (.slice Ay (toC cr).2.2.1.length cy) (.slice Av l0.length cv) (.slice Aw l1.length cw) W12 W) => (e10 W (below_step hb12 hw.below)).mono (fun _ _ h => And.intro h.1 (hw.step h.2))
  have g11 := fun W (hw : TlS w g9 gt gu gx (.slice A0 l0.length c0) (.slice A1 l1.length c1) (.slice B0 m0.length d0) (.slice B1 m1.length d1) (.slice As l0.length cs) (.slice At l1.length ct) (.bool (toC cr).1) (.string (toC cr).2.1) (.slice Ax (toC cr).2.2.1.length cx) (.bool (toC cr).1) (.string (toC cr).2.1) (.slice Ay (toC cr).2.2.1.length cy) (.slice Av l0.length cv) (.slice Aw l1.length cw) W12 W) => (e11 W (below_step hb12 hw.below)).mono (fun _ _ h => And.intro h.1 (hw.step h.2))
  have gsi := fun W (hw : TlS w g9 gt gu gx (.slice A0 l0.length c0) (.slice A1 l1.length c1) (.slice B0 m0.length d0) (.slice B1 m1.length d1) (.slice As l0.length cs) (.slice At l1.length ct) (.bool (toC cr).1) (.string (toC cr).2.1) (.slice Ax (toC cr).2.2.1.length cx) (.bool (toC cr).1) (.string (toC cr).2.1) (.slice Ay (toC cr).2.2.1.length cy) (.slice Av l0.length cv) (.slice Aw l1.length cw) W12 W) => (siginit_calls W).mono (fun e W' h => show ∃ A c B d, e = .returned (.agg #[.slice A iniO.length c, .slice B iniC.length d]) ∧ iniO.length ≤ c ∧ k106.C W' A iniO.length iniO ∧ iniC.length ≤ d ∧ k108.C W' B iniC.length iniC ∧ Below W.heap.size W W' ∧ TlS w g9 gt gu gx (.slice A0 l0.length c0) (.slice A1 l1.length c1) (.slice B0 m0.length d0) (.slice B1 m1.length d1) (.slice As l0.length cs) (.slice At l1.length ct) (.bool (toC cr).1) (.string (toC cr).2.1) (.slice Ax (toC cr).2.2.1.length cx) (.bool (toC cr).1) (.string (toC cr).2.1) (.slice Ay (toC cr).2.2.1.length cy) (.slice Av l0.length cv) (.slice Aw l1.length cw) W12 W' by obtain ⟨A, c, B, d, h1, h2, h3, h4, h5, h6⟩ := h; exact ⟨A, c, B, d, h1, h2, h3, h4, h5, h6, hw.step h6⟩)
  have gri := fun W (hw : TlS w g9 gt gu gx (.slice A0 l0.length c0) (.slice A1 l1.length c1) (.slice B0 m0.length d0) (.slice B1 m1.length d1) (.slice As l0.length cs) (.slice At l1.length ct) (.bool (toC cr).1) (.string (toC cr).2.1) (.slice Ax (toC cr).2.2.1.length cx) (.bool (toC cr).1) (.string (toC cr).2.1) (.slice Ay (toC cr).2.2.1.length cy) (.slice Av l0.length cv) (.slice Aw l1.length cw) W12 W) => (refinit_calls W).mono (fun e W' h => show ∃ A c B d, e = .returned (.agg #[.slice A iniO.length c, .slice B iniC.length d]) ∧ iniO.length ≤ c ∧ k106.C W' A iniO.length iniO ∧ iniC.length ≤ d ∧ k108.C W' B iniC.length iniC ∧ Below W.heap.size W W' ∧ TlS w g9 gt gu gx (.slice A0 l0.length c0) (.slice A1 l1.length c1) (.slice B0 m0.length d0) (.slice B1 m1.length d1) (.slice As l0.length cs) (.slice At l1.length ct) (.bool (toC cr).1) (.string (toC cr).2.1) (.slice Ax (toC cr).2.2.1.length cx) (.bool (toC cr).1) (.string (toC cr).2.1) (.slice Ay (toC cr).2.2.1.length cy) (.slice Av l0.length cv) (.slice Aw l1.length cw) W12 W' by obtain ⟨A, c, B, d, h1, h2, h3, h4, h5, h6⟩ := h; exact ⟨A, c, B, d, h1, h2, h3, h4, h5, h6, hw.step h6⟩)
  have gss := fun (A c B d A' c' B' d') W (hw : TlS w g9 gt gu gx (.slice A0 l0.length c0) (.slice A1 l1.length c1) (.slice B0 m0.length d0) (.slice B1 m1.length d1) (.slice As l0.length cs) (.slice At l1.length ct) (.bool (toC cr).1) (.string (toC cr).2.1) (.slice Ax (toC cr).2.2.1.length cx) (.bool (toC cr).1) (.string (toC cr).2.1) (.slice Ay (toC cr).2.2.1.length cy) (.slice Av l0.length cv) (.slice Aw l1.length cw) W12 W) h1 l1 h2 l2 h3 l3 h4 l4 => (sequentref04_Same.calls q8 A c iniO B d iniC A' c' iniO B' d' iniC true W h1 l1 h2 l2 h3 l3 h4 l4 hq8).mono (fun _ _ h => And.intro h.1 (hw.step h.2))
  have hlC : (toC cr).2.2.1.length ≤ 9223372036854775807 := hx12.2.1
  clear e6 e7 e8 e9 e10 e11 hq7 hq8 hq9 hq9' hcs_ hx12 hy12 hv12 hw12 RA RB RC RD RS RT
  go_cut [17] (fun v17 wc => v17 = .bool true ∧ Aside0 (TlS w g9 gt gu gx (.slice A0 l0.length c0) (.slice A1 l1.length c1) (.slice B0 m0.length d0) (.slice B1 m1.length d1) (.slice As l0.length cs) (.slice At l1.length ct) (.bool (toC cr).1) (.string (toC cr).2.1) (.slice Ax (toC cr).2.2.1.length cx) (.bool (toC cr).1) (.string (toC cr).2.1) (.slice Ay (toC cr).2.2.1.length cy) (.slice Av l0.length cv) (.slice Aw l1.length cw) W12 wc))
  case first =>
    clear hcl e12 BX BT12 rt12 rv12 rw12 g8 g9' g10 g11 gsi gri gss hb12 hbw B9
    have hSd := hS12.step (below_drew1 (Below.refl _ _))
    go_region_held3 (fun W => TlS w g9 gt gu gx (.slice A0 l0.length c0) (.slice A1 l1.length c1) (.slice B0 m0.length d0) (.slice B1 m1.length d1) (.slice As l0.length cs) (.slice At l1.length ct) (.bool (toC cr).1) (.string (toC cr).2.1) (.slice Ax (toC cr).2.2.1.length cx) (.bool (toC cr).1) (.string (toC cr).2.1) (.slice Ay (toC cr).2.2.1.length cy) (.slice Av l0.length cv) (.slice Aw l1.length cw) W12 W)
      (first | (with_reducible exact hSd) | (with_reducible assumption))
      (first
        | (go_at_call 78; (with_reducible refine (f12 _ (by with_reducible assumption)).mono ?_); rintro e w1 ⟨rfl, hN⟩)
        | (go_at_call 31; (with_reducible refine (f9 _ (by with_reducible assumption)).mono ?_); rintro e w1 ⟨rfl, hN⟩)
        | (go_at_call 77; (with_reducible refine (f7 _ (by with_reducible assumption)).mono ?_); rintro e w1 ⟨rfl, hN⟩)
        | (go_at_call 76; (with_reducible refine (f6 _ (by with_reducible assumption)).mono ?_); rintro e w1 ⟨rfl, hN⟩))
    all_goals go_wp2
    all_goals go_meet
    all_goals (case rel => exact ⟨by first | rfl | simp, ⟨by with_reducible assumption⟩⟩)
  case rest =>
    obtain ⟨rfl, HS⟩ := hcut
    have hS13 := HS.out
    clear f6 f7 f9 f12 HS hS12
    go_upto_region 10 with fail
    go_cut [17] (fun v17 wc => v17 = .bool true ∧ Aside0 (TlS w g9 gt gu gx (.slice A0 l0.length c0) (.slice A1 l1.length c1) (.slice B0 m0.length d0) (.slice B1 m1.length d1) (.slice As l0.length cs) (.slice At l1.length ct) (.bool (toC cr).1) (.string (toC cr).2.1) (.slice Ax (toC cr).2.2.1.length cx) (.bool (toC cr).1) (.string (toC cr).2.1) (.slice Ay (toC cr).2.2.1.length cy) (.slice Av l0.length cv) (.slice Aw l1.length cw) W12 wc))
    case first =>
      clear hcl e12 BX BT12 rt12 rv12 rw12 hb12 hbw B9
      have hSd := hS13.step (below_drew1 (Below.refl _ _))
      go_region_held3 (fun W => TlS w g9 gt gu gx (.slice A0 l0.length c0) (.slice A1 l1.length c1) (.slice B0 m0.length d0) (.slice B1 m1.length d1) (.slice As l0.length cs) (.slice At l1.length ct) (.bool (toC cr).1) (.string (toC cr).2.1) (.slice Ax (toC cr).2.2.1.length cx) (.bool (toC cr).1) (.string (toC cr).2.1) (.slice Ay (toC cr).2.2.1.length cy) (.slice Av l0.length cv) (.slice Aw l1.length cw) W12 W)
        (first | (with_reducible exact hSd) | (with_reducible assumption))
        (first
          | (go_at_call 78; (with_reducible refine (gss _ _ _ _ _ _ _ _ _ (by with_reducible assumption) Ci li Cj lj Ck lk Cl ll).mono ?_); rintro e w1 ⟨rfl, hN⟩)
          | (go_at_call 83; (with_reducible refine (gri _ (by with_reducible assumption)).mono ?_); rintro e w1 ⟨Ak, ck, Bk, dk, rfl, lk, Ck, ll, Cl, hbi, hN⟩; (try have Ci := Kd.C_below Ci hbi); (try have Cj := Kd.C_below Cj hbi))
          | (go_at_call 82; (with_reducible refine (gsi _ (by with_reducible assumption)).mono ?_); rintro e w1 ⟨Ai, ci, Bi, di, rfl, li, Ci, lj, Cj, hbi, hN⟩; (try have Ck := Kd.C_below Ck hbi); (try have Cl := Kd.C_below Cl hbi))
          | (go_at_call 78; (with_reducible refine (g11 _ (by with_reducible assumption)).mono ?_); rintro e w1 ⟨rfl, hN⟩)
          | (go_at_call 81; (with_reducible refine (g10 _ (by with_reducible assumption)).mono ?_); rintro e w1 ⟨rfl, hN⟩)
          | (go_at_call 80; (with_reducible refine (g9' _ (by with_reducible assumption)).mono ?_); rintro e w1 ⟨rfl, hN⟩)
          | (go_at_call 79; (with_reducible refine (g8 _ (by with_reducible assumption)).mono ?_); rintro e w1 ⟨rfl, hN⟩))
      all_goals go_wp2
      all_goals go_meet
      all_goals (case rel => exact ⟨by first | rfl | simp, ⟨by with_reducible assumption⟩⟩)
    case rest =>
      obtain ⟨rfl, HS⟩ := hcut
      have hS14 := HS.out
      clear HS hS13 g8 g9' g10 g11 gsi gri gss
      have hb14 := Aside0.mk (below_step hb12 hS14.below)
      have BX14 := blk_below BX hS14.below
      have BT14 := blk_below BT12 hS14.below
      have rv := rv12.later hS14.below
      have rx := rw12.later hS14.below
      have rt := rt12.later hS14.below
      have hst := Aside0.mk (StrStep.refl (fun k => W4.heap.size ≤ k) wc)
      have hlA : l0.length ≤ 9223372036854775807 := by omega
      have hlB : l1.length ≤ 9223372036854775807 := by omega
      clear hS14 BX BT12 rv12 rw12 rt12 hb12
      go_wp2_with fail
      go_loopg [18] l0.length (fun gg vi wr => ∃ kk : Nat, kk ≤ l0.length ∧ gg + kk = l0.length ∧ vi = .int .i64 (kk : Int) ∧ Aside0 (StrStep (fun k => W4.heap.size ≤ k) wc wr))
      case atStart => exact ⟨0, by omega, by omega, rfl, hst⟩
      case round =>
        obtain ⟨kk, hk1, hk2, rfl, hst'⟩ := hrel
        clear hst
        have hst := hst'
        clear hst'
        have y0 := hst.out.slice_cell BX14 (i := 0) rfl
        by_cases hkk : kk < l0.length
        · have q0 : decide (kk < l0.length) = true := decide_eq_true hkk
          obtain ⟨gr, cur, ty, hAr, hgr, hbr, hsr⟩ := (rv.str hst.out) (by omega)
          subst hAr
          obtain ⟨s, hs⟩ := hsr kk hkk
          have e0 := (blk_cell hbr (kk * 2 + 0)).trans hs
          have f0 := blk_frozen hbr (kk * 2 + 0)
          have hnx := Aside0.mk (hst.out.trans (StrStep.set (ok := fun k => W4.heap.size ≤ k) (s' := ⟨#[63]⟩) hbr hgr hs))
          try simp only [Nat.add_zero] at e0 f0 hnx
          clear hbr hsr hs hst e12 hcl
          go_wp2_with fail
          go_roundg (l0.length - kk - 1)
          case measure => omega
          case rel => exact ⟨kk + 1, by omega, by omega, by first | (simp; done) | (simp; exact w64 (by omega) (by omega)), hnx⟩
        · have q0 : decide (kk < l0.length) = false := decide_eq_false hkk
          go_wp2_with fail
          clear y0
          go_loopg [19] l1.length (fun gg vi wr => ∃ kk : Nat, kk ≤ l1.length ∧ gg + kk = l1.length ∧ vi = .int .i64 (kk : Int) ∧ Aside0 (StrStep (fun k => W4.heap.size ≤ k) wc wr))
          case atStart => exact ⟨0, by omega, by omega, rfl, hst⟩
          case round =>
            obtain ⟨kk, hk1, hk2, rfl, hst'⟩ := hrel
            clear hst
            have hst := hst'
            clear hst'
            have y0 := hst.out.slice_cell BX14 (i := 1) rfl
            by_cases hkk : kk < l1.length
            · have q0 : decide (kk < l1.length) = true := decide_eq_true hkk
              obtain ⟨gr, cur, ty, hAr, hgr, hbr, hsr⟩ := (rx.str hst.out) (by omega)
              subst hAr
              obtain ⟨s, hs⟩ := hsr kk hkk
              have e0 := (blk_cell hbr (kk * 4 + 0)).trans hs
              have f0 := blk_frozen hbr (kk * 4 + 0)
              have hnx := Aside0.mk (hst.out.trans (StrStep.set (ok := fun k => W4.heap.size ≤ k) (s' := ⟨#[63]⟩) hbr hgr hs))
              try simp only [Nat.add_zero] at e0 f0 hnx
              clear hbr hsr hs hst e12 hcl
              go_wp2_with fail
              go_roundg (l1.length - kk - 1)
              case measure => omega
              case rel => exact ⟨kk + 1, by omega, by omega, by first | (simp; done) | (simp; exact w64 (by omega) (by omega)), hnx⟩
            · have q0 : decide (kk < l1.length) = false := decide_eq_false hkk
              go_wp2_with fail
              clear y0
              go_loopg [20] (toC cr).2.2.1.length (fun gg vi wr => ∃ kk : Nat, kk ≤ (toC cr).2.2.1.length ∧ gg + kk = (toC cr).2.2.1.length ∧ vi = .int .i64 (kk : Int) ∧ Aside0 (StrStep (fun k => W4.heap.size ≤ k) wc wr))
              case atStart => exact ⟨0, by omega, by omega, rfl, hst⟩
              case round =>
                obtain ⟨kk, hk1, hk2, rfl, hst'⟩ := hrel
                clear hst
                have hst := hst'
                clear hst'
                have y0 := hst.out.slice_cell BT14 (i := 2) rfl
                by_cases hkk : kk < (toC cr).2.2.1.length
                · have q0 : decide (kk < (toC cr).2.2.1.length) = true := decide_eq_true hkk
                  obtain ⟨gr, cur, ty, hAr, hgr, hbr, hsr⟩ := (rt.str hst.out) (by omega)
                  subst hAr
                  obtain ⟨s, hs⟩ := hsr kk hkk
                  have e0 := (blk_cell hbr (kk * 3 + 1)).trans hs
                  have f0 := blk_frozen hbr (kk * 3 + 1)
                  have hnx := Aside0.mk (hst.out.trans (StrStep.set (ok := fun k => W4.heap.size ≤ k) (s' := ⟨#[63]⟩) hbr hgr hs))
                  try simp only [Nat.add_zero] at e0 f0 hnx
                  clear hbr hsr hs hst e12 hcl
                  go_wp2_with fail
                  go_roundg ((toC cr).2.2.1.length - kk - 1)
                  case measure => omega
                  case rel => exact ⟨kk + 1, by omega, by omega, by first | (simp; done) | (simp; exact w64 (by omega) (by omega)), hnx⟩
                · have q0 : decide (kk < (toC cr).2.2.1.length) = false := decide_eq_false hkk
                  have hbF := hb14.out.trans (hst.out.below hb14.out.size (fun k hk => hk))
                  obtain ⟨p0, p1, p2, p3, p4, p5⟩ := hcl _ hbF
                  clear hst
                  go_wp2_with (go_at_call 78; (with_reducible refine (e12 _ hbF).mono ?_); rintro e W15 ⟨rfl, hb15⟩)
                  go_ret
                  exact ⟨by first | rfl | simp, below_step hbw (below_step hbF hb15)⟩
end Go.Proofs.Ytecplbgdalchdaa.Q
