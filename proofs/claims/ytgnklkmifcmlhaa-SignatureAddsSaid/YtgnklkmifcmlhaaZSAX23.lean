/- Proved here: parts of the proof of a given statement (HRowSignatureAdds): contracts of the functions that it reaches, what they answer, and in the last text the statement itself. Conditions: those that each theorem names. -/
import Derived.Test.YtgnklkmifcmlhaaZSAX21
import Derived.Test.YtgnklkmifcmlhaaZSAX22
import Derived.Test.YtgnklkmifcmlhaaZSAX18
import Derived.Test.YtgnklkmifcmlhaaZSAX19
import Derived.Test.YtgnklkmifcmlhaaZSAX20
import Derived.Test.YtgnklkmifcmlhaaZSAX11
import Derived.Test.YtgnklkmifcmlhaaZSAX3
/- Proved here: the law SignatureAdds, walked. Conditions: those that each theorem names. -/
namespace Go.Proofs.Ytgnklkmifcmlhaa.Q
open Go.RowKit Go.Shelf Go.Proofs.YtgnklkmifcmlhaaW.PrintWords Go.Proofs.YtgnklkmifcmlhaaW.PrintMore
set_option linter.unusedVariables false
set_option linter.unusedSimpArgs false
attribute [local go_sem] Oper.semAt_some

abbrev AdS (w : World) (v0 v1 : Value) (t : S25) (A : Option Addr) (c : Nat) (W : World) : Prop :=
  W.cell? ⟨w.heap.size, 0, none⟩ = some v0 ∧ W.cell? ⟨w.heap.size, 1, none⟩ = some v1 ∧ W.cell? ⟨w.heap.size + 1, 0, none⟩ = some (.bool t.f0) ∧ W.cell? ⟨w.heap.size + 1, 1, none⟩ = some (.string t.f1) ∧ W.cell? ⟨w.heap.size + 1, 2, none⟩ = some (.slice A t.f2.length c) ∧ Below w.heap.size w W
section
variable {w W W' : World} {v0 v1 : Value} {t : S25} {A : Option Addr} {c : Nat}
theorem AdS.step (h : AdS w v0 v1 t A c W) (hb : Below W.heap.size W W') : AdS w v0 v1 t A c W' := by
  obtain ⟨h0, h1, h2, h3, h4, h5⟩ := h
  exact ⟨pw_cell_below hb h0, pw_cell_below hb h1, pw_cell_below hb h2, pw_cell_below hb h3, pw_cell_below hb h4, below_step h5 hb⟩
theorem AdS.below (h : AdS w v0 v1 t A c W) : Below w.heap.size w W := h.2.2.2.2.2
end
abbrev BxS (w : World) (a b x y : Nat) (v0 v1 v2 v3 v4 v5 v6 v7 : Value) (W : World) : Prop :=
  W.cell? ⟨a, 0, none⟩ = some v0 ∧ W.cell? ⟨a, 1, none⟩ = some v1 ∧ W.cell? ⟨b, 0, none⟩ = some v2 ∧ W.cell? ⟨b, 1, none⟩ = some v3 ∧ W.cell? ⟨x, 0, none⟩ = some v4 ∧ W.cell? ⟨x, 1, none⟩ = some v5 ∧ W.cell? ⟨y, 0, none⟩ = some v6 ∧ W.cell? ⟨y, 1, none⟩ = some v7 ∧ Below w.heap.size w W
section
variable {w W W' : World} {a b x y : Nat} {v0 v1 v2 v3 v4 v5 v6 v7 : Value}
theorem BxS.step (h : BxS w a b x y v0 v1 v2 v3 v4 v5 v6 v7 W) (hb : Below W.heap.size W W') : BxS w a b x y v0 v1 v2 v3 v4 v5 v6 v7 W' := by
  obtain ⟨h0, h1, h2, h3, h4, h5, h6, h7, h8⟩ := h
  exact ⟨pw_cell_below hb h0, pw_cell_below hb h1, pw_cell_below hb h2, pw_cell_below hb h3, pw_cell_below hb h4, pw_cell_below hb h5, pw_cell_below hb h6, pw_cell_below hb h7, below_step h8 hb⟩
theorem BxS.below (h : BxS w a b x y v0 v1 v2 v3 v4 v5 v6 v7 W) : Below w.heap.size w W := h.2.2.2.2.2.2.2.2
end
/-- The result's constants: of any names now. -/
def LpS (W4 : World) (b g : Nat) (v0 : Value) (A : Option Addr) (n c : Nat) (W : World) : Prop :=
  W.heap[g]? = some (.cells #[v0, .slice A n c] 81 (0, 0)) ∧ (∃ L : List S92, Kd.N k92 92 W b (fun k => True ∧ k < g) (.slice A n c) L) ∧ Below W4.heap.size W4 W
theorem greatG_not {l0 : List S124} {l1 : List S92} (h : greatG l0 l1 = false) : l0.length ≤ 600 ∧ l1.length ≤ 600 ∧ ∀ x, x ∈ l1 → szT x.f1 ≤ 1500 := by
  unfold greatG at h
  simp only [Bool.or_eq_false_iff, decide_eq_false_iff_not] at h
  obtain ⟨h0, h1, h2, h3, h4⟩ := h
  refine ⟨by omega, by omega, fun x hx => ?_⟩
  rw [List.any_eq_false] at h3
  have := h3 x hx
  unfold bigC at this
  simp only [Bool.or_eq_true, not_or, Bool.not_eq_true] at this
  exact greatB_sz this.1
set_option maxHeartbeats 4000000 in
set_option maxRecDepth 100000 in
theorem law_adds (l0 : List S124) (A0 : Option Addr) (c0 : Nat) (l1 : List S92) (A1 : Option Addr) (c1 : Nat) (name : ByteArray) (ar : Int) (t : S25) (A : Option Addr) (c : Nat) (w : World)
    (hr0 : Kd.C k124 w A0 l0.length l0) (hc0 : l0.length ≤ c0) (hr1 : Kd.C k92 w A1 l1.length l1) (hc1 : l1.length ≤ c1)
    (h0 : ∀ x, x ∈ l0 → okS x.f0) (h1 : ∀ x, x ∈ l1 → okS x.f0 ∧ wd x.f1) (hnm : okS name) (hA : k25.C w A t.f2.length t.f2) (hc : t.f2.length ≤ c) (hwt : wd t) :
    Calls Try.prog 12 #[.agg #[.slice A0 l0.length c0, .slice A1 l1.length c1], .string name, .int .i64 ar, .agg #[.bool t.f0, .string t.f1, .slice A t.f2.length c]] w fun e w' => e = .returned (.bool true) ∧ Below w.heap.size w w' := by
  obtain ⟨kg, hkg⟩ := (greatg_ev l0 l1 (fun x hx => (h1 x hx).2)).at
  obtain ⟨kt, hkt⟩ := (great_ev t hwt).at
  have hgs := fun W (hw : AdS w (.slice A0 l0.length c0) (.slice A1 l1.length c1) t A c W) => (sequentref04_Great.calls kg A0 c0 l0 A1 c1 l1 _ W (Kd.C_below hr0 hw.below) hc0 (Kd.C_below hr1 hw.below) hc1 hkg).mono (fun _ _ h => And.intro h.1 (hw.step h.2))
  have hgt := fun W (hw : AdS w (.slice A0 l0.length c0) (.slice A1 l1.length c1) t A c W) => (sequentref01_Great.calls kt t.f0 t.f1 A c t.f2 _ W (Kd.C_below hA hw.below) hc hkt).mono (fun _ _ h => And.intro h.1 (hw.step h.2))
  have hS0 : AdS w (.slice A0 l0.length c0) (.slice A1 l1.length c1) t A c ((w.alloc (.cells #[.slice A0 l0.length c0, .slice A1 l1.length c1] 81)).alloc (.cells #[.bool t.f0, .string t.f1, .slice A t.f2.length c] 25)) := by
    obtain ⟨x0, x1, _, _⟩ := box2k (two_new w (.cells #[.slice A0 l0.length c0, .slice A1 l1.length c1] 81) (.cells #[.bool t.f0, .string t.f1, .slice A t.f2.length c] 25)).2.1
    obtain ⟨y0, y1, y2, _, _, _, _⟩ := box3s (two_new w (.cells #[.slice A0 l0.length c0, .slice A1 l1.length c1] 81) (.cells #[.bool t.f0, .string t.f1, .slice A t.f2.length c] 25)).2.2
    exact ⟨x0, x1, y0, y1, y2, (two_new w (.cells #[.slice A0 l0.length c0, .slice A1 l1.length c1] 81) (.cells #[.bool t.f0, .string t.f1, .slice A t.f2.length c] 25)).1⟩
  have hS1 := hS0
  obtain ⟨x0, x1, x2, x3, x4, x5⟩ := hS1
  clear hkg hkt
  cases hgX : greatG l0 l1 with
  | true =>
    rw [hgX] at hgs
    clear hgt hr0 hr1 h0 h1 hA hwt hnm
    go_enter Try.func12, Try.ntmps12
    go_wp2_with (go_at_call 49; (with_reducible refine (hgs _ hS0).mono ?_); rintro e W1 ⟨rfl, hN⟩)
    go_ret
    exact ⟨rfl, hN.below⟩
  | false =>
  rw [hgX] at hgs
  cases hgT : greatB t with
  | true =>
    rw [hgT] at hgt
    clear hr0 hr1 h0 h1 hA hwt hnm
    go_enter Try.func12, Try.ntmps12
    go_wp2_with (first
      | (go_at_call 14; (with_reducible refine (hgt _ hN).mono ?_); rintro e W2 ⟨rfl, hN2⟩)
      | (go_at_call 49; (with_reducible refine (hgs _ hS0).mono ?_); rintro e W1 ⟨rfl, hN⟩; obtain ⟨x0, x1, x2, x3, x4, x5⟩ := id hN))
    go_ret
    exact ⟨rfl, hN2.below⟩
  | false =>
  rw [hgT] at hgt
  by_cases hsz : (name.size : Int) > 1000
  · have hs1 : decide ((name.size : Int) > 1000) = true := decide_eq_true hsz
    clear hr0 hr1 h0 h1 hA hwt hnm
    go_enter Try.func12, Try.ntmps12
    go_wp2_with (first
      | (go_at_call 14; (with_reducible refine (hgt _ hN).mono ?_); rintro e W2 ⟨rfl, hN2⟩)
      | (go_at_call 49; (with_reducible refine (hgs _ hS0).mono ?_); rintro e W1 ⟨rfl, hN⟩; obtain ⟨x0, x1, x2, x3, x4, x5⟩ := id hN))
    go_ret
    exact ⟨rfl, hN2.below⟩
  have hs1 : decide ((name.size : Int) > 1000) = false := decide_eq_false hsz
  obtain ⟨z0, z1, z2⟩ := greatG_not hgX
  have hft : fit t := fit_of_wd hwt (by have := greatB_sz hgT; omega)
  have hzt := greatB_sz hgT
  have hf1 : ∀ x, x ∈ l1 → okS x.f0 ∧ fit x.f1 := fun x hx => ⟨(h1 x hx).1, fit_of_wd (h1 x hx).2 (by have := z2 x hx; omega)⟩
  have hzz : ∀ x, x ∈ l1 → szT x.f1 < 2932031007402 := fun x hx => by have := z2 x hx; omega
  obtain ⟨k1, hk1⟩ := (twing_ev l0 l1 (by omega) (by omega) hzz).at
  have htw := fun W (hw : AdS w (.slice A0 l0.length c0) (.slice A1 l1.length c1) t A c W) => sequentref04_Twin.calls k1 A0 c0 l0 A1 c1 l1 _ _ W (Kd.C_below hr0 hw.below) hc0 (Kd.C_below hr1 hw.below) hc1 hk1
  have H0 := Aside0.mk hr0
  have H1 := Aside0.mk hr1
  have HA := Aside0.mk hA
  have Hh := Aside0.mk h0
  have Hf := Aside0.mk hf1
  have HZ := Aside0.mk hzz
  have Hz := Aside0.mk z2
  have HN := Aside0.mk hnm
  have HT := Aside0.mk hft
  have Hzt := Aside0.mk hzt
  clear hr0 hr1 hA h0 h1 hf1 hzz z2 hnm hft hzt hwt hk1 hgX hgT hsz
  go_enter Try.func12, Try.ntmps12
  go_upto_region 4 with (first
    | (go_at_call 50; (with_reducible refine (htw _ hN).mono ?_); rintro e W3 ⟨u0, u1, rfl, hR0, hR1, hb3⟩; obtain ⟨As, cs, hs0, hcs, hCs⟩ := Kd.R_reads hR0; subst hs0; obtain ⟨At, ct, hst, hct, hCt⟩ := Kd.R_reads hR1; subst hst; have hN3 := hN.step hb3)
    | (go_at_call 14; (with_reducible refine (hgt _ hN).mono ?_); rintro e W2 ⟨rfl, hN⟩; obtain ⟨x0, x1, x2, x3, x4, x5⟩ := id hN)
    | (go_at_call 49; (with_reducible refine (hgs _ hS0).mono ?_); rintro e W1 ⟨rfl, hN⟩; obtain ⟨x0, x1, x2, x3, x4, x5⟩ := id hN))
  have hb4 := below_one (w := W3) (.cells #[.slice As l0.length cs, .slice At l1.length ct] 81)
  have B9 := blk_new W3 (.cells #[.slice As l0.length cs, .slice At l1.length ct] 81)
  have hN4 := hN3.step hb4
  have hC4s := Kd.C_below hCs hb4
  have hC4t := Kd.C_below hCt hb4
  clear hgs hgt htw hS0 hN hN3 hCs hCt hR0 hR1 hb3 hb4 x0 x1 x2 x3 x4 x5
  generalize W3.alloc (.cells #[.slice As l0.length cs, .slice At l1.length ct] 81) = W4 at *
  generalize W3.heap.size = g9 at *
  have hcl : ∀ W, Below W4.heap.size W4 W → W.cell? ⟨w.heap.size, 0, none⟩ = some (.slice A0 l0.length c0) ∧ W.cell? ⟨w.heap.size, 1, none⟩ = some (.slice A1 l1.length c1) ∧ W.cell? ⟨w.heap.size + 1, 0, none⟩ = some (.bool t.f0) ∧ W.cell? ⟨w.heap.size + 1, 1, none⟩ = some (.string t.f1) ∧ W.cell? ⟨w.heap.size + 1, 2, none⟩ = some (.slice A t.f2.length c) ∧ W.cell? ⟨g9, 0, none⟩ = some (.slice As l0.length cs) ∧ W.cell? ⟨g9, 1, none⟩ = some (.slice At l1.length ct) := fun W hw => by
    obtain ⟨o0, o1, _, _⟩ := box2k B9
    exact ⟨pw_cell_below hw hN4.1, pw_cell_below hw hN4.2.1, pw_cell_below hw hN4.2.2.1, pw_cell_below hw hN4.2.2.2.1, pw_cell_below hw hN4.2.2.2.2.1, pw_cell_below hw o0, pw_cell_below hw o1⟩
  have hzl : ∀ x, x ∈ l1 → szL x.f1.f2 < 5864062014805 := fun x hx => by have := Hz.out x hx; have := szT_eq' x.f1; omega
  have hadt := addtype_calls As cs l0 At ct l1 name ar W4 hC4s hcs hC4t hct Hh.out Hf.out (by omega) (by omega) hzl HN.out
  obtain ⟨k2, hk2⟩ := (refadt_ev l0 l1 (by omega) (by omega) name ar Hh.out Hf.out HZ.out HN.out).at
  have hadc := fun W (hw : Below W4.heap.size W4 W) => addconst_calls As cs l0 At ct l1 name t A c W (Kd.C_below hC4s hw) hcs (Kd.C_below hC4t hw) hct Hh.out Hf.out (by omega) (by omega) hzl HN.out (Kd.C_below HA.out (below_step hN4.below hw)) hc HT.out (by have := Hzt.out; have := szT_eq' t; omega)
  obtain ⟨k3, hk3⟩ := (refadc_ev l0 l1 (by omega) (by omega) name t Hh.out Hf.out HZ.out HN.out HT.out (by have := Hzt.out; omega)).at
  have hsA : ∃ k, sequentref04_Same.f k (if adtE l0 l1 name ar = 0 then l0 ++ [⟨name, ar⟩] else []) (if adtE l0 l1 name ar = 0 then l1 else []) (if adtE l0 l1 name ar = 0 then l0 ++ [⟨name, ar⟩] else []) (if adtE l0 l1 name ar = 0 then l1 else []) = some true := by
    refine (samesig_ev _ _ ?_ ?_ ?_).at
    · split <;> (try simp) <;> omega
    · split <;> (try simp) <;> omega
    · intro x hx
      split at hx
      · exact HZ.out x hx
      · cases hx
  have hsX : ∃ k, sequentref04_Same.f k (if adcE l0 l1 name t = 0 then l0 else []) (if adcE l0 l1 name t = 0 then l1 ++ [⟨name, t⟩] else []) (if adcE l0 l1 name t = 0 then l0 else []) (if adcE l0 l1 name t = 0 then l1 ++ [⟨name, t⟩] else []) = some true := by
    refine (samesig_ev _ _ ?_ ?_ ?_).at
    · split <;> (try simp) <;> omega
    · split <;> (try simp) <;> omega
    · intro x hx
      split at hx
      · rw [List.mem_append, List.mem_singleton] at hx
        rcases hx with hx | rfl
        · exact HZ.out x hx
        · have := Hzt.out; show szT t < _; omega
      · cases hx
  have hlx : (if adcE l0 l1 name t = 0 then l1 ++ [⟨name, t⟩] else []).length ≤ 100000 := by split <;> (try simp) <;> omega
  obtain ⟨k5, hk5⟩ := (samesig_ev l0 l1 (by omega) (by omega) HZ.out).at
  generalize (if adtE l0 l1 name ar = 0 then l0 ++ [⟨name, ar⟩] else []) = LA0 at *
  generalize (if adtE l0 l1 name ar = 0 then l1 else []) = LA1 at *
  generalize adtE l0 l1 name ar = ea at *
  generalize (if adcE l0 l1 name t = 0 then l0 else []) = LX0 at *
  generalize (if adcE l0 l1 name t = 0 then l1 ++ [⟨name, t⟩] else []) = LX1 at *
  generalize adcE l0 l1 name t = ec at *
  obtain ⟨k4, hk4⟩ := hsA
  obtain ⟨k6, hk6⟩ := hsX
  have hrat := fun W (hw : Below W4.heap.size W4 W) => sequentref04_AddType.calls k2 A0 c0 l0 A1 c1 l1 name ar LA0 LA1 ea W (Kd.C_below H0.out (below_step hN4.below hw)) hc0 (Kd.C_below H1.out (below_step hN4.below hw)) hc1 hk2
  have hrac := fun W (hw : Below W4.heap.size W4 W) => sequentref04_AddConst.calls k3 A0 c0 l0 A1 c1 l1 name t.f0 t.f1 A c t.f2 LX0 LX1 ec W (Kd.C_below H0.out (below_step hN4.below hw)) hc0 (Kd.C_below H1.out (below_step hN4.below hw)) hc1 (Kd.C_below HA.out (below_step hN4.below hw)) hc hk3
  have hsS := fun W (hw : Below W4.heap.size W4 W) => (sequentref04_Same.calls k5 As cs l0 At ct l1 A0 c0 l0 A1 c1 l1 true W (Kd.C_below hC4s hw) hcs (Kd.C_below hC4t hw) hct (Kd.C_below H0.out (below_step hN4.below hw)) hc0 (Kd.C_below H1.out (below_step hN4.below hw)) hc1 hk5).mono (fun _ _ h => And.intro h.1 (below_step hw h.2))
  have hbw := hN4.below
  obtain ⟨p0, p1, p2, p3, p4, p5, p6⟩ := hcl W4 (Below.refl _ _)
  clear hk2 hk3 hk5 hC4s hC4t hzl H0 H1 HA Hh Hf HZ Hz HN HT Hzt hN4 B9 z0 z1
  go_upto_region 8 with (first
    | (go_at_call 54; (with_reducible refine (hrac _ hb10).mono ?_); rintro e W11 ⟨u0, u1, rfl, hY0, hY1, hb11⟩; obtain ⟨Ag, cg, hvg, hcg, hCg⟩ := Kd.R_reads hY0; subst hvg; obtain ⟨Ah, ch, hvh, hch, hCh⟩ := Kd.R_reads hY1; subst hvh; have hq10 := below_step hb11 (below_one (w := W11) (.cells #[.slice Ag LX0.length cg, .slice Ah LX1.length ch] 81)); have hb12 := below_step hb10 hq10; have B16 := blk_new W11 (.cells #[.slice Ag LX0.length cg, .slice Ah LX1.length ch] 81); obtain ⟨p0, p1, p2, p3, p4, p5, p6⟩ := hcl _ hb12)
    | (go_at_call 53; (with_reducible refine (hadc _ hb8).mono ?_); rintro e W9 ⟨u0, u1, rfl, hSX⟩; obtain ⟨Ae, ce, hve, hce, hCe⟩ := Kd.N_reads hSX.1; subst hve; obtain ⟨Af, cf, hvf, hcf, hCf⟩ := Kd.N_reads hSX.2.1; subst hvf; have hq8 := below_step hSX.2.2 (below_one (w := W9) (.cells #[.slice Ae LX0.length ce, .slice Af LX1.length cf] 81)); have hb10 := below_step hb8 hq8; have B14 := blk_new W9 (.cells #[.slice Ae LX0.length ce, .slice Af LX1.length cf] 81); obtain ⟨p0, p1, p2, p3, p4, p5, p6⟩ := hcl _ hb10)
    | (go_at_call 52; (with_reducible refine (hrat _ hb6).mono ?_); rintro e W7 ⟨u0, u1, rfl, hQ0, hQ1, hb7⟩; obtain ⟨Ac, cc, hvc, hcc, hCc⟩ := Kd.R_reads hQ0; subst hvc; obtain ⟨Ad, cd, hvd, hcd, hCd⟩ := Kd.R_reads hQ1; subst hvd; have hq6 := below_step hb7 (below_one (w := W7) (.cells #[.slice Ac LA0.length cc, .slice Ad LA1.length cd] 81)); have hb8 := below_step hb6 hq6; have B12 := blk_new W7 (.cells #[.slice Ac LA0.length cc, .slice Ad LA1.length cd] 81); obtain ⟨p0, p1, p2, p3, p4, p5, p6⟩ := hcl _ hb8)
    | (go_at_call 51; (with_reducible refine hadt.mono ?_); rintro e W5 ⟨u0, u1, rfl, hSA⟩; obtain ⟨Aa, ca, hva, hca, hCa⟩ := Kd.N_reads hSA.1; subst hva; obtain ⟨Ab, cb, hvb, hcb, hCb⟩ := Kd.N_reads hSA.2.1; subst hvb; have hb6 := below_step hSA.2.2 (below_one (w := W5) (.cells #[.slice Aa LA0.length ca, .slice Ab LA1.length cb] 81)); have B10 := blk_new W5 (.cells #[.slice Aa LA0.length ca, .slice Ab LA1.length cb] 81); obtain ⟨p0, p1, p2, p3, p4, p5, p6⟩ := hcl _ hb6))
  have hd8 := below_step hq8 hq10
  have hd6 := below_step hq6 hd8
  have ha1 := Kd.C_below (Kd.C_below hCa (below_one (w := W5) (.cells #[.slice Aa LA0.length ca, .slice Ab LA1.length cb] 81))) hd6
  have ha2 := Kd.C_below (Kd.C_below hCb (below_one (w := W5) (.cells #[.slice Aa LA0.length ca, .slice Ab LA1.length cb] 81))) hd6
  have ha3 := Kd.C_below (Kd.C_below hCc (below_one (w := W7) (.cells #[.slice Ac LA0.length cc, .slice Ad LA1.length cd] 81))) hd8
  have ha4 := Kd.C_below (Kd.C_below hCd (below_one (w := W7) (.cells #[.slice Ac LA0.length cc, .slice Ad LA1.length cd] 81))) hd8
  have ha5 := Kd.C_below (Kd.C_below hCe (below_one (w := W9) (.cells #[.slice Ae LX0.length ce, .slice Af LX1.length cf] 81))) hq10
  have ha6 := Kd.C_below (Kd.C_below hCf (below_one (w := W9) (.cells #[.slice Ae LX0.length ce, .slice Af LX1.length cf] 81))) hq10
  have ha7 := Kd.C_below hCg (below_one (w := W11) (.cells #[.slice Ag LX0.length cg, .slice Ah LX1.length ch] 81))
  have ha8 := Kd.C_below hCh (below_one (w := W11) (.cells #[.slice Ag LX0.length cg, .slice Ah LX1.length ch] 81))
  obtain ⟨q0, q1, _, _⟩ := box2k (blk_below B10 hd6)
  obtain ⟨q2, q3, _, _⟩ := box2k (blk_below B12 hd8)
  have BX := blk_below B14 hq10
  obtain ⟨q4, q5, _, _⟩ := box2k BX
  obtain ⟨q6, q7, _, _⟩ := box2k B16
  have hNX := Kd.N_below (Kd.N_below (Kd.N_bound hSX.2.1) (below_one (w := W9) (.cells #[.slice Ae LX0.length ce, .slice Af LX1.length cf] 81))) hq10
  have hs48 := hb8.size
  clear p0 p1 p2 p3 p4 p5 p6 hadt hadc hrat hrac hSA hSX hQ0 hQ1 hY0 hY1 hCa hCb hCc hCd hCe hCf hCg hCh B10 B12 B14 B16 hd6 hd8 hq6 hq8 hq10 hb6 hb8 hb10 hb7 hb11
  generalize W11.alloc (.cells #[.slice Ag LX0.length cg, .slice Ah LX1.length ch] 81) = W12 at *
  generalize W11.heap.size = g16 at *
  generalize hg14 : W9.heap.size = g14 at *
  generalize (W7.alloc (.cells #[.slice Ac LA0.length cc, .slice Ad LA1.length cd] 81)).heap.size = b8 at *
  generalize W7.heap.size = g12 at *
  generalize W5.heap.size = g10 at *
  clear hg14
  have hs1 := fun W (hw : BxS W12 g10 g12 g14 g16 (.slice Aa LA0.length ca) (.slice Ab LA1.length cb) (.slice Ac LA0.length cc) (.slice Ad LA1.length cd) (.slice Ae LX0.length ce) (.slice Af LX1.length cf) (.slice Ag LX0.length cg) (.slice Ah LX1.length ch) W) => (sequentref04_Same.calls k4 Aa ca LA0 Ab cb LA1 Ac cc LA0 Ad cd LA1 true W (Kd.C_below ha1 hw.below) hca (Kd.C_below ha2 hw.below) hcb (Kd.C_below ha3 hw.below) hcc (Kd.C_below ha4 hw.below) hcd hk4).mono (fun _ _ h => And.intro h.1 (hw.step h.2))
  have hs2 := fun W (hw : BxS W12 g10 g12 g14 g16 (.slice Aa LA0.length ca) (.slice Ab LA1.length cb) (.slice Ac LA0.length cc) (.slice Ad LA1.length cd) (.slice Ae LX0.length ce) (.slice Af LX1.length cf) (.slice Ag LX0.length cg) (.slice Ah LX1.length ch) W) => (sequentref04_Same.calls k6 Ae ce LX0 Af cf LX1 Ag cg LX0 Ah ch LX1 true W (Kd.C_below ha5 hw.below) hce (Kd.C_below ha6 hw.below) hcf (Kd.C_below ha7 hw.below) hcg (Kd.C_below ha8 hw.below) hch hk6).mono (fun _ _ h => And.intro h.1 (hw.step h.2))
  have hNd : BxS W12 g10 g12 g14 g16 (.slice Aa LA0.length ca) (.slice Ab LA1.length cb) (.slice Ac LA0.length cc) (.slice Ad LA1.length cd) (.slice Ae LX0.length ce) (.slice Af LX1.length cf) (.slice Ag LX0.length cg) (.slice Ah LX1.length ch) W12 := ⟨q0, q1, q2, q3, q4, q5, q6, q7, Below.refl _ _⟩
  clear ha1 ha2 ha3 ha4 ha5 ha6 ha7 ha8 hk4 hk6
  replace hNX := Aside0.mk hNX
  replace BX := Aside0.mk BX
  replace hb12 := Aside0.mk hb12
  replace hbw := Aside0.mk hbw
  go_wp2_with (first
    | (go_at_call 55; (with_reducible refine (hs2 _ hN).mono ?_); rintro e W14 ⟨rfl, hN2⟩)
    | (go_at_call 55; (with_reducible refine (hs1 _ hNd).mono ?_); rintro e W13 ⟨rfl, hN⟩; obtain ⟨q0, q1, q2, q3, q4, q5, q6, q7, q8⟩ := id hN))
  have hb14 := below_step hb12.out hN2.below
  have hst : LpS W4 b8 g14 (.slice Ae LX0.length ce) Af LX1.length cf W14 := ⟨blk_below BX.out hN2.below, ⟨LX1, Kd.N_below hNX.out hN2.below⟩, hb14⟩
  clear hs1 hs2 hNd hN hN2 q0 q1 q2 q3 q4 q5 q6 q7 q8 hNX BX hb12 hb14
  generalize LX1.length = n at *
  replace hst := Aside0.mk hst
  go_loopg [19] n (fun gg v19 wr => ∃ kk : Nat, kk ≤ n ∧ gg + kk = n ∧ v19 = .int .i64 (kk : Int) ∧ Aside0 (LpS W4 b8 g14 (.slice Ae LX0.length ce) Af n cf wr))
  case atStart => exact ⟨0, by omega, by omega, rfl, hst⟩
  case round =>
    obtain ⟨kk, hk1, hk2, rfl, hT2⟩ := hrel
    clear hst
    obtain ⟨hBx, ⟨L, hL⟩, hbr⟩ := hT2.out
    clear hT2
    have hnL := (Kd.N_reads' hL).1
    obtain ⟨y0, y1, y2, y3⟩ := box2k hBx
    by_cases hkk : kk < n
    · have q0 : decide (kk < n) = true := decide_eq_true hkk
      obtain ⟨gx, cap, he, hg1, hg2, _⟩ := Kd.N_form hL (by omega)
      injection he with he1 he2 he3
      subst he1 he3
      obtain ⟨cs1, hcl1, hK, hcc1, hfr⟩ := Kd.N_elem hL z92 (kk : Int) (by omega) (by omega)
      obtain ⟨A3, c3, hcs1, hl3, hF3⟩ := k92_openF hK
      subst hcs1
      have e0 := hcc1 0 _ rfl
      have f0 := hfr 0
      simp only [Int.toNat_natCast, show k92.sz = 4 from rfl, Nat.add_zero] at e0 f0
      have hgx : gx < g14 := (hL.1 gx (by simp [Value.ownBlock])).2
      have hs := Kd.N_seg (seg := [.string ⟨#[63]⟩]) (j := 0) (okp := fun k => (True ∧ k < g14) ∧ k ≠ gx) (x' := ⟨⟨#[63]⟩, (L.getD (kk : Int).toNat z92).f1⟩) hL (kk : Int) (by omega) (by omega) hcl1 hcc1 (by show 0 + 1 ≤ 4; omega) (k92_mkF wr _ ⟨⟨#[63]⟩, (L.getD (kk : Int).toNat z92).f1⟩ hl3 hF3) (fun k hk => hk)
      have hL' := Aside0.mk hs.1
      clear hs hK hF3 hcc1 hfr hcl1
      replace hL := Aside0.mk hL
      go_wp2_with fail
      go_roundg (n - kk - 1)
      case measure => omega
      case rel =>
        refine ⟨kk + 1, by omega, by omega, by first | (simp; done) | (simp; exact w64 (by omega) (by omega)), ⟨⟨?_, ⟨_, hL'.out⟩, below_set hbr (by show W4.heap.size ≤ gx; omega)⟩⟩⟩
        rw [Below.heap_setCell _ _ _ _ (by show g14 ≠ gx; omega)]
        exact hBx
    · have q0 : decide (kk < n) = false := decide_eq_false hkk
      obtain ⟨p0, p1, p2, p3, p4, p5, p6⟩ := hcl wr hbr
      clear hcl hL
      go_wp2_with (go_at_call 55; (with_reducible refine (hsS _ hbr).mono ?_); rintro e W15 ⟨rfl, hb15⟩)
      go_ret
      exact ⟨rfl, below_step hbw.out hb15⟩
end Go.Proofs.Ytgnklkmifcmlhaa.Q
