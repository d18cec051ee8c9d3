/- Proved here: the walk of the law TypesInsts. Conditions: those that each theorem names. -/
import Derived.Test.YtgnklkmifcmlhaaHRef
import Derived.Test.YtgnklkmifcmlhaaHOpen
import Derived.Test.YtgnklkmifcmlhaaHSpoil
namespace Go.Proofs.Ytgnklkmifcmlhaa.Q
open Go.RowKit Go.Shelf Go.Proofs.YtgnklkmifcmlhaaW.PrintWords Go.Proofs.YtgnklkmifcmlhaaW.PrintMore
set_option linter.unusedVariables false
set_option linter.unusedSimpArgs false
attribute [local go_sem] Oper.semAt_some

set_option maxHeartbeats 2000000 in
set_option maxRecDepth 100000 in
theorem law_insts (s : List S59) (A0 : Option Addr) (c0 : Nat) (t : S25) (A : Option Addr) (c : Nat) (w : World) (hs : k59.C w A0 s.length s) (hc0 : s.length ≤ c0)
    (hsl : s.length ≤ 4611686018427387904) (hws : ∀ b, b ∈ s → wdB b) (hA : k25.C w A t.f2.length t.f2) (hc : t.f2.length ≤ c) (hwt : wd t) :
    Calls Try.prog 3 #[.slice A0 s.length c0, .agg #[.bool t.f0, .string t.f1, .slice A t.f2.length c]] w fun e w' => e = .returned (.bool true) ∧ Below w.heap.size w w' := by
  obtain ⟨k1, h1⟩ := (greats_ev s hws).at
  obtain ⟨k2, h2⟩ := (great_ev t hwt).at
  have h13 := fun W (hw : Below w.heap.size w W) => sequentref01_GreatBinds.calls k1 A0 c0 s _ W (Kd.C_below hs hw) hc0 h1
  have h14 := fun W (hw : Below w.heap.size w W) => sequentref01_Great.calls k2 t.f0 t.f1 A c t.f2 _ W (Kd.C_below hA hw) hc h2
  have hb0 := below_one (w := w) (.cells #[.bool t.f0, .string t.f1, .slice A t.f2.length c] 25)
  have B30 := blk_new w (.cells #[.bool t.f0, .string t.f1, .slice A t.f2.length c] 25)
  clear h1 h2
  cases hg1 : greatS s with
  | true =>
    rw [hg1] at h13
    clear h14 hs hA hg1 hws hwt
    go_enter Try.func3, Try.ntmps3
    go_wp2_with (go_at_call 13; refine (h13 _ hb0).mono ?_; rintro e W1 ⟨rfl, hc1⟩)
    go_ret
    exact ⟨rfl, below_step hb0 hc1⟩
  | false =>
    rw [hg1] at h13
    cases hg2 : greatB t with
    | true =>
      rw [hg2] at h14
      clear hs hA hg1 hg2 hws hwt
      go_enter Try.func3, Try.ntmps3
      go_wp2_with (first
        | (go_at_call 13; refine (h13 _ hb0).mono ?_; rintro e W1 ⟨rfl, hc1⟩; have hb1 := below_step hb0 hc1; have B31 := blk_below B30 hc1; obtain ⟨x0, x1, x2, x3, x4, x5, x6⟩ := box3s B31)
        | (go_at_call 14; refine (h14 _ hb1).mono ?_; rintro e W2 ⟨rfl, hc2⟩))
      go_ret
      exact ⟨rfl, below_step hb1 hc2⟩
    | false =>
      rw [hg2] at h14
      have hst := greatB_sz hg2
      have hsm := (greatS_mem hg1).2
      have hft := fit_of_wd hwt (by omega)
      have hfs : ∀ b, b ∈ s → fitB b := fun b hb => ⟨(hws b hb).1, fit_of_wd (hws b hb).2 (by have := (hsm b hb).1; omega)⟩
      obtain ⟨k3, h3⟩ := (reftwin_ev t (by omega)).at
      obtain ⟨k4, h4⟩ := (refinst_ev s t hsl hfs hft).at
      obtain ⟨k5, h5⟩ := (same_ev (instF s t).1 (instF s t).1 (by
        unfold instF
        split
        · split
          · rename_i h; dsimp only; omega
          · simp [szT, szL, z25]
        · simp [szT, szL, z25])).at
      obtain ⟨k6, h6⟩ := (same_ev t t (by omega)).at
      rw [cmpT_self] at h5 h6
      have h15 := fun W (hw : Below w.heap.size w W) => sequentref01_Twin.calls k3 t.f0 t.f1 A c t.f2 _ _ _ W (Kd.C_below hA hw) hc h3
      have h16 := fun W A' c' (hw : Below w.heap.size w W) hA' hc' => inst_walk A0 c0 s t A' c' W (Kd.C_below hs hw) hc0 hA' hc' hfs hft
      have h17 := fun W (hw : Below w.heap.size w W) => sequentref01_Inst.calls k4 A0 c0 s t.f0 t.f1 A c t.f2 _ _ _ _ W (Kd.C_below hs hw) hc0 (Kd.C_below hA hw) hc h4
      generalize instF s t = r at *
      obtain ⟨r, q⟩ := r
      dsimp only at h5 h16 h17
      have h18a := fun W A1 c1 A2 c2 hA1 hc1 hA2 hc2 => sequentref01_Same.calls k5 r.f0 r.f1 A1 c1 r.f2 r.f0 r.f1 A2 c2 r.f2 _ W hA1 hc1 hA2 hc2 h5
      have h18b := fun W A1 c1 (hw : Below w.heap.size w W) hA1 hc1 => sequentref01_Same.calls k6 t.f0 t.f1 A1 c1 t.f2 t.f0 t.f1 A c t.f2 _ W hA1 hc1 (Kd.C_below hA hw) hc h6
      have h19 := fun v ok W hW => spoil_calls (szL r.f2) r.f2 r.f0 r.f1 v ok W (Nat.le_refl _) hW
      clear h3 h4 h5 h6 hs hA hg1 hg2 hws hwt hst hsm hft hfs
      have hq : (q == q) = true := beq_self_eq_true q
      have hq2 : decide (q = q) = true := decide_eq_true rfl
      go_enter Try.func3, Try.ntmps3
      go_wp2_with (first
        | (go_at_call 13; refine (h13 _ hb0).mono ?_; rintro e W1 ⟨rfl, hc1⟩; have hb1 := below_step hb0 hc1; have B31 := blk_below B30 hc1; obtain ⟨x0, x1, x2, x3, x4, x5, x6⟩ := box3s B31)
        | (go_at_call 14; refine (h14 _ hb1).mono ?_; rintro e W2 ⟨rfl, hc2⟩; have hb2 := below_step hb1 hc2; have B32 := blk_below B31 hc2; obtain ⟨x0, x1, x2, x3, x4, x5, x6⟩ := box3s B32)
        | (go_at_call 15; refine (h15 _ hb2).mono ?_; rintro e W3 ⟨v5, rfl, hR5, hc3⟩; obtain ⟨A5, c5, hv5, hl5, hC5⟩ := Kd.R_reads hR5; subst hv5; have hb3 := below_step hb2 hc3; have B33 := blk_below B32 hc3; have Bn5 := blk_new W3 (.cells #[.bool t.f0, .string t.f1, .slice A5 t.f2.length c5] 25); have hb3' := hb3.alloc hb3.size (.cells #[.bool t.f0, .string t.f1, .slice A5 t.f2.length c5] 25); have B33' := blk_alloc B33 (.cells #[.bool t.f0, .string t.f1, .slice A5 t.f2.length c5] 25); have hC5' := Kd.C_below hC5 (below_one (.cells #[.bool t.f0, .string t.f1, .slice A5 t.f2.length c5] 25)))
        | (go_at_call 16; refine (h16 _ A5 c5 hb3' hC5' hl5).mono ?_; rintro e W4 ⟨v6, rfl, hT6, hc4⟩; obtain ⟨A6, c6, hv6, hl6, hC6⟩ := hT6.reads; subst hv6; have hb4 := below_step hb3' hc4; have B34 := blk_below B33' hc4; have B54 := blk_below Bn5 hc4; have Bn6 := blk_new W4 (.cells #[.bool r.f0, .string r.f1, .slice A6 r.f2.length c6] 25); have hb4' := hb4.alloc hb4.size (.cells #[.bool r.f0, .string r.f1, .slice A6 r.f2.length c6] 25); have B34' := blk_alloc B34 (.cells #[.bool r.f0, .string r.f1, .slice A6 r.f2.length c6] 25); obtain ⟨x0, x1, x2, x3, x4, x5, x6⟩ := box3s B34)
        | (go_at_call 17; refine (h17 _ hb4').mono ?_; rintro e W5 ⟨v8, rfl, hR8, hc5'⟩; obtain ⟨A8, c8, hv8, hl8, hC8⟩ := Kd.R_reads hR8; subst hv8; have hcc5 := below_step (below_one _) hc5'; have hb5 := below_step hb4' hc5'; have B65 := blk_below Bn6 hc5'; have Bn8 := blk_new W5 (.cells #[.bool r.f0, .string r.f1, .slice A8 r.f2.length c8] 25); obtain ⟨z0, z1, z2, z3, z4, z5, z6⟩ := box3s B65; have hC6' := Kd.C_below hC6 (hcc5.alloc hcc5.size (.cells #[.bool r.f0, .string r.f1, .slice A8 r.f2.length c8] 25)); have hC8' := Kd.C_below hC8 (below_one (.cells #[.bool r.f0, .string r.f1, .slice A8 r.f2.length c8] 25)))
        | (go_at_call 18; refine (h18a _ A6 c6 A8 c8 hC6' hl6 hC8' hl8).mono ?_; rintro e W6 ⟨rfl, hc6'⟩; have hcc6 := below_step (hcc5.alloc hcc5.size (.cells #[.bool r.f0, .string r.f1, .slice A8 r.f2.length c8] 25)) hc6'; have B66 := blk_below (blk_alloc B65 (.cells #[.bool r.f0, .string r.f1, .slice A8 r.f2.length c8] 25)) hc6'; obtain ⟨z0, z1, z2, z3, z4, z5, z6⟩ := box3s B66)
        | (go_at_call 19; refine (h19 _ _ _ (WS_of_WT (hT6.later hcc6))).mono ?_; rintro e W7 ⟨rfl, hS7⟩; have hs7 := hS7.below (B := W3.heap.size + 1) (by have e1 := hcc6.size; have e2 := hc4.size; simp only [World.size_alloc] at e2; omega) (fun k hk => by simpa using hk); have hW36 : Below W3.heap.size W3 W6 := (below_step (below_one (.cells #[.bool t.f0, .string t.f1, .slice A5 t.f2.length c5] 25)) hc4).trans (hcc6.mono (below_step (below_one (.cells #[.bool t.f0, .string t.f1, .slice A5 t.f2.length c5] 25)) hc4).size); have hW37 : Below W3.heap.size W3 W7 := hW36.trans (hs7.mono (by omega)); have hb7 : Below w.heap.size w W7 := hb3.trans (hW37.mono hb3.size); have B57 := (hs7.block _ (by omega)).trans (blk_below B54 hcc6); have B37 := blk_below B33 hW37; have hC57 := Kd.C_below hC5 hW37; obtain ⟨z0, z1, z2, z3, z4, z5, z6⟩ := box3s B57; obtain ⟨x0, x1, x2, x3, x4, x5, x6⟩ := box3s B37)
        | (go_at_call 18; refine (h18b _ A5 c5 hb7 hC57 hl5).mono ?_; rintro e W8 ⟨rfl, hc8⟩))
      go_ret
      exact ⟨rfl, below_step hb7 hc8⟩
end Go.Proofs.Ytgnklkmifcmlhaa.Q
