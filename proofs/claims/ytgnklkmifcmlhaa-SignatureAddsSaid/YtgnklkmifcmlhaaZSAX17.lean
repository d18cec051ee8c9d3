/- Proved here: parts of the proof of a given statement (HRowSignatureAdds): contracts of the functions that it reaches, what they answer, and in the last text the statement itself. Conditions: those that each theorem names. -/
import Derived.Test.YtgnklkmifcmlhaaZSAX15
import Derived.Test.YtgnklkmifcmlhaaZSAX16
/- Proved here: the contract of signature.AddType. Conditions: those that each theorem names. -/
namespace Go.Proofs.Ytgnklkmifcmlhaa.Q
open Go.RowKit Go.Shelf Go.Proofs.YtgnklkmifcmlhaaW.PrintWords Go.Proofs.YtgnklkmifcmlhaaW.PrintMore
set_option linter.unusedVariables false
set_option linter.unusedSimpArgs false
attribute [local go_sem] Oper.semAt_some

def adtE (l0 : List S124) (l1 : List S92) (name : ByteArray) (ar : Int) : Int :=
  if sigE l0 l1 ≠ 0 then sigE l0 l1 else if nmC name = false ∨ ar < 0 ∨ 8 < ar then 2 else if (lookK name (arD [] l0)).isSome = true then 41 else if l0.length = 512 then 4 else 0
/-- A signature of the call's own, as a result. -/
def SigR (w w' : World) (v0 v1 : Value) (L0 : List S124) (L1 : List S92) : Prop :=
  Kd.N k124 124 w' w.heap.size (fun _ => True) v0 L0 ∧ Kd.N k92 92 w' w.heap.size (fun _ => True) v1 L1 ∧ Below w.heap.size w w'
theorem SigR.nil {w w' : World} (h : Below w.heap.size w w') : SigR w w' (.slice none 0 0) (.slice none 0 0) [] [] := ⟨Kd.N_nil _ _ _ _ _, Kd.N_nil _ _ _ _ _, h⟩
set_option maxHeartbeats 2000000 in
set_option maxRecDepth 100000 in
theorem addtype_calls (A0 : Option Addr) (c0 : Nat) (l0 : List S124) (A1 : Option Addr) (c1 : Nat) (l1 : List S92) (name : ByteArray) (ar : Int) (w : World) (hr0 : Kd.C k124 w A0 l0.length l0) (hc0 : l0.length ≤ c0) (hr1 : Kd.C k92 w A1 l1.length l1) (hc1 : l1.length ≤ c1)
    (h0 : ∀ x, x ∈ l0 → okS x.f0) (h1 : ∀ x, x ∈ l1 → okS x.f0 ∧ fit x.f1) (z0 : l0.length ≤ 100000) (z1 : l1.length ≤ 100000) (hz : ∀ x, x ∈ l1 → szL x.f1.f2 < 5864062014805) (hnm : okS name) :
    Calls Try.prog 51 #[.agg #[.slice A0 l0.length c0, .slice A1 l1.length c1], .string name, .int .i64 ar] w fun e w' => ∃ v0 v1, e = .returned (.tuple #[.agg #[v0, v1], .int .i64 (adtE l0 l1 name ar)]) ∧ SigR w w' v0 v1 (if adtE l0 l1 name ar = 0 then l0 ++ [⟨name, ar⟩] else []) (if adtE l0 l1 name ar = 0 then l1 else []) := by
  have hb0 := (two_new w (.cells #[.slice A0 l0.length c0, .slice A1 l1.length c1] 81) (.cells #[.slice none 0 0, .slice none 0 0] 81)).1
  have BX := (two_new w (.cells #[.slice A0 l0.length c0, .slice A1 l1.length c1] 81) (.cells #[.slice none 0 0, .slice none 0 0] 81)).2.1
  have BR := (two_new w (.cells #[.slice A0 l0.length c0, .slice A1 l1.length c1] 81) (.cells #[.slice none 0 0, .slice none 0 0] 81)).2.2
  obtain ⟨x0, x1, _, _⟩ := box2k BX
  have hck := sigcheck_calls A0 c0 l0 A1 c1 l1 _ (Kd.C_below hr0 hb0) hc0 (Kd.C_below hr1 hb0) hc1 h0 h1
  have hop := fun W => operator_calls name hnm W
  have htw := fun W (hW : Below w.heap.size w W) => sigtwin_calls A0 c0 l0 A1 c1 l1 w W hW hr0 hc0 hr1 hc1 z0 z1 hz
  have hAE : adtE l0 l1 name ar = adtE l0 l1 name ar := rfl
  conv at hAE => rhs; unfold adtE
  clear hr0 hr1 h0 h1 hnm hz
  generalize adtE l0 l1 name ar = AE at hAE ⊢
  by_cases hE : sigE l0 l1 = 0
  · rw [if_neg (by simpa using hE)] at hAE
    have HE := Aside0.mk hE
    cases hn : nmC name with
    | false =>
      rw [if_pos (.inl hn)] at hAE
      rw [hn] at hop
      subst hAE
      rw [if_neg (by decide), if_neg (by decide)]
      clear htw
      go_enter Try.func51, Try.ntmps51
      go_wp2_with (first | (go_at_call 85; refine (hop _).mono ?_; rintro e W2 ⟨rfl, hc2⟩; have BX4 := blk_below BX3 hc2; have BT4 := blk_below BT3 hc2; have hA4 := MapIs.later hA3 hc2; have rl := ArIs.look hA4 name; obtain ⟨u0, u1, u2, u3⟩ := box2k BX4; obtain ⟨ua, ub, uc, ud⟩ := box2k (blk_below BR3 hc2); obtain ⟨ta, tb, tc, td⟩ := box2k BT4) | (go_at_call 84; refine hck.mono ?_; rintro e W1 ⟨ma, mb, rfl, hR, hc1⟩; obtain ⟨m1, m2, d2, rfl, rfl, hA, hCo, hD, hT⟩ := hR HE.out; have hcb := below_step (below_step hb0 hc1) (below_one (.cells #[.map (some m1), .map (some m2)] 128)); have BX3 := blk_below (blk_below BX hc1) (below_one (.cells #[.map (some m1), .map (some m2)] 128)); have BR3 := blk_below (blk_below BR hc1) (below_one (.cells #[.map (some m1), .map (some m2)] 128)); have BT3 := blk_new W1 (.cells #[.map (some m1), .map (some m2)] 128); have hA3 := MapIs.later hA (below_one (.cells #[.map (some m1), .map (some m2)] 128)); obtain ⟨y0, y1, y2, y3⟩ := box2k BX3; obtain ⟨ya, yb, yc, yd⟩ := box2k BR3; have hE0 := HE.out; simp only [hE0]))
      refine bodyPost_ret (results_ct rfl _ _ (w.heap.size + 1) 81 #[.slice none 0 0, .slice none 0 0] (0, 0) _ rfl (set2k (blk_below BR3 hc2)) Try.underlying81 rfl (by kernel_rfl)) rfl ?_
      exact ⟨_, _, rfl, SigR.nil (below_set (below_set (below_step hcb hc2) (by omega)) (by omega))⟩
    | true =>
    rw [hn] at hop
    by_cases pa : ar < 0
    · rw [if_pos (.inr (.inl pa))] at hAE
      have pa' : decide (ar < 0) = true := decide_eq_true pa
      subst hAE
      rw [if_neg (by decide), if_neg (by decide)]
      clear htw
      go_enter Try.func51, Try.ntmps51
      go_wp2_with (first | (go_at_call 85; refine (hop _).mono ?_; rintro e W2 ⟨rfl, hc2⟩; have BX4 := blk_below BX3 hc2; have BT4 := blk_below BT3 hc2; have hA4 := MapIs.later hA3 hc2; have rl := ArIs.look hA4 name; obtain ⟨u0, u1, u2, u3⟩ := box2k BX4; obtain ⟨ua, ub, uc, ud⟩ := box2k (blk_below BR3 hc2); obtain ⟨ta, tb, tc, td⟩ := box2k BT4) | (go_at_call 84; refine hck.mono ?_; rintro e W1 ⟨ma, mb, rfl, hR, hc1⟩; obtain ⟨m1, m2, d2, rfl, rfl, hA, hCo, hD, hT⟩ := hR HE.out; have hcb := below_step (below_step hb0 hc1) (below_one (.cells #[.map (some m1), .map (some m2)] 128)); have BX3 := blk_below (blk_below BX hc1) (below_one (.cells #[.map (some m1), .map (some m2)] 128)); have BR3 := blk_below (blk_below BR hc1) (below_one (.cells #[.map (some m1), .map (some m2)] 128)); have BT3 := blk_new W1 (.cells #[.map (some m1), .map (some m2)] 128); have hA3 := MapIs.later hA (below_one (.cells #[.map (some m1), .map (some m2)] 128)); obtain ⟨y0, y1, y2, y3⟩ := box2k BX3; obtain ⟨ya, yb, yc, yd⟩ := box2k BR3; have hE0 := HE.out; simp only [hE0]))
      refine bodyPost_ret (results_ct rfl _ _ (w.heap.size + 1) 81 #[.slice none 0 0, .slice none 0 0] (0, 0) _ rfl (set2k (blk_below BR3 hc2)) Try.underlying81 rfl (by kernel_rfl)) rfl ?_
      exact ⟨_, _, rfl, SigR.nil (below_set (below_set (below_step hcb hc2) (by omega)) (by omega))⟩
    have pa' : decide (ar < 0) = false := decide_eq_false pa
    by_cases pb : 8 < ar
    · rw [if_pos (.inr (.inr pb))] at hAE
      have pb' : decide (8 < ar) = true := decide_eq_true pb
      subst hAE
      rw [if_neg (by decide), if_neg (by decide)]
      clear htw
      go_enter Try.func51, Try.ntmps51
      go_wp2_with (first | (go_at_call 85; refine (hop _).mono ?_; rintro e W2 ⟨rfl, hc2⟩; have BX4 := blk_below BX3 hc2; have BT4 := blk_below BT3 hc2; have hA4 := MapIs.later hA3 hc2; have rl := ArIs.look hA4 name; obtain ⟨u0, u1, u2, u3⟩ := box2k BX4; obtain ⟨ua, ub, uc, ud⟩ := box2k (blk_below BR3 hc2); obtain ⟨ta, tb, tc, td⟩ := box2k BT4) | (go_at_call 84; refine hck.mono ?_; rintro e W1 ⟨ma, mb, rfl, hR, hc1⟩; obtain ⟨m1, m2, d2, rfl, rfl, hA, hCo, hD, hT⟩ := hR HE.out; have hcb := below_step (below_step hb0 hc1) (below_one (.cells #[.map (some m1), .map (some m2)] 128)); have BX3 := blk_below (blk_below BX hc1) (below_one (.cells #[.map (some m1), .map (some m2)] 128)); have BR3 := blk_below (blk_below BR hc1) (below_one (.cells #[.map (some m1), .map (some m2)] 128)); have BT3 := blk_new W1 (.cells #[.map (some m1), .map (some m2)] 128); have hA3 := MapIs.later hA (below_one (.cells #[.map (some m1), .map (some m2)] 128)); obtain ⟨y0, y1, y2, y3⟩ := box2k BX3; obtain ⟨ya, yb, yc, yd⟩ := box2k BR3; have hE0 := HE.out; simp only [hE0]))
      refine bodyPost_ret (results_ct rfl _ _ (w.heap.size + 1) 81 #[.slice none 0 0, .slice none 0 0] (0, 0) _ rfl (set2k (blk_below BR3 hc2)) Try.underlying81 rfl (by kernel_rfl)) rfl ?_
      exact ⟨_, _, rfl, SigR.nil (below_set (below_set (below_step hcb hc2) (by omega)) (by omega))⟩
    have pb' : decide (8 < ar) = false := decide_eq_false pb
    rw [if_neg (by rintro (h | h | h); (rw [hn] at h; cases h); exact pa h; exact pb h)] at hAE
    cases hlk : (lookK name (arD [] l0)).isSome with
    | true =>
      rw [if_pos hlk] at hAE
      subst hAE
      rw [if_neg (by decide), if_neg (by decide)]
      clear htw
      go_enter Try.func51, Try.ntmps51
      go_wp2_with (first | (go_at_call 85; refine (hop _).mono ?_; rintro e W2 ⟨rfl, hc2⟩; have BX4 := blk_below BX3 hc2; have BT4 := blk_below BT3 hc2; have hA4 := MapIs.later hA3 hc2; have rl := ArIs.look hA4 name; rw [hlk] at rl; obtain ⟨u0, u1, u2, u3⟩ := box2k BX4; obtain ⟨ua, ub, uc, ud⟩ := box2k (blk_below BR3 hc2); obtain ⟨ta, tb, tc, td⟩ := box2k BT4) | (go_at_call 84; refine hck.mono ?_; rintro e W1 ⟨ma, mb, rfl, hR, hc1⟩; obtain ⟨m1, m2, d2, rfl, rfl, hA, hCo, hD, hT⟩ := hR HE.out; have hcb := below_step (below_step hb0 hc1) (below_one (.cells #[.map (some m1), .map (some m2)] 128)); have BX3 := blk_below (blk_below BX hc1) (below_one (.cells #[.map (some m1), .map (some m2)] 128)); have BR3 := blk_below (blk_below BR hc1) (below_one (.cells #[.map (some m1), .map (some m2)] 128)); have BT3 := blk_new W1 (.cells #[.map (some m1), .map (some m2)] 128); have hA3 := MapIs.later hA (below_one (.cells #[.map (some m1), .map (some m2)] 128)); obtain ⟨y0, y1, y2, y3⟩ := box2k BX3; obtain ⟨ya, yb, yc, yd⟩ := box2k BR3; have hE0 := HE.out; simp only [hE0]))
      refine bodyPost_ret (results_ct rfl _ _ (w.heap.size + 1) 81 #[.slice none 0 0, .slice none 0 0] (0, 0) _ rfl (set2k (blk_below BR3 hc2)) Try.underlying81 rfl (by kernel_rfl)) rfl ?_
      exact ⟨_, _, rfl, SigR.nil (below_set (below_set (below_step hcb hc2) (by omega)) (by omega))⟩
    | false =>
    rw [if_neg (by rw [hlk]; simp)] at hAE
    by_cases pl : l0.length = 512
    · rw [if_pos pl] at hAE
      have pl'' : ((l0.length : Int) == 512) = true := by simp; omega
      clear pl
      subst hAE
      rw [if_neg (by decide), if_neg (by decide)]
      clear htw
      go_enter Try.func51, Try.ntmps51
      go_wp2_with (first | (go_at_call 85; refine (hop _).mono ?_; rintro e W2 ⟨rfl, hc2⟩; have BX4 := blk_below BX3 hc2; have BT4 := blk_below BT3 hc2; have hA4 := MapIs.later hA3 hc2; have rl := ArIs.look hA4 name; rw [hlk] at rl; obtain ⟨u0, u1, u2, u3⟩ := box2k BX4; obtain ⟨ua, ub, uc, ud⟩ := box2k (blk_below BR3 hc2); obtain ⟨ta, tb, tc, td⟩ := box2k BT4) | (go_at_call 84; refine hck.mono ?_; rintro e W1 ⟨ma, mb, rfl, hR, hc1⟩; obtain ⟨m1, m2, d2, rfl, rfl, hA, hCo, hD, hT⟩ := hR HE.out; have hcb := below_step (below_step hb0 hc1) (below_one (.cells #[.map (some m1), .map (some m2)] 128)); have BX3 := blk_below (blk_below BX hc1) (below_one (.cells #[.map (some m1), .map (some m2)] 128)); have BR3 := blk_below (blk_below BR hc1) (below_one (.cells #[.map (some m1), .map (some m2)] 128)); have BT3 := blk_new W1 (.cells #[.map (some m1), .map (some m2)] 128); have hA3 := MapIs.later hA (below_one (.cells #[.map (some m1), .map (some m2)] 128)); obtain ⟨y0, y1, y2, y3⟩ := box2k BX3; obtain ⟨ya, yb, yc, yd⟩ := box2k BR3; have hE0 := HE.out; simp only [hE0]))
      refine bodyPost_ret (results_ct rfl _ _ (w.heap.size + 1) 81 #[.slice none 0 0, .slice none 0 0] (0, 0) _ rfl (set2k (blk_below BR3 hc2)) Try.underlying81 rfl (by kernel_rfl)) rfl ?_
      exact ⟨_, _, rfl, SigR.nil (below_set (below_set (below_step hcb hc2) (by omega)) (by omega))⟩
    rw [if_neg pl] at hAE
    have pl' : decide (l0.length = 512) = false := decide_eq_false pl
    have pl'' : ((l0.length : Int) == 512) = false := by simp; omega
    subst hAE
    rw [if_pos rfl, if_pos rfl]
    go_enter Try.func51, Try.ntmps51
    go_wp2_with (first
      | ((with_reducible refine gate_dst (N := 56) rfl ?_); refine lockC_ ?_)
      | (go_at_call 86; refine (htw _ (below_step hcb hc2)).mono ?_; rintro e W5 ⟨s0, s1, rfl, hSN⟩; obtain ⟨As, cs, hs0⟩ := Kd.N_slice hSN.1; subst hs0; obtain ⟨At, ct, hs1⟩ := Kd.N_slice hSN.2.1; subst hs1; have BTw := blk_new W5 (.cells #[.slice As l0.length cs, .slice At l1.length ct] 81); obtain ⟨w0, w1, w2, w3⟩ := box2k BTw) | (go_at_call 85; refine (hop _).mono ?_; rintro e W2 ⟨rfl, hc2⟩; have BX4 := blk_below BX3 hc2; have BT4 := blk_below BT3 hc2; have hA4 := MapIs.later hA3 hc2; have rl := ArIs.look hA4 name; rw [hlk] at rl; obtain ⟨u0, u1, u2, u3⟩ := box2k BX4; obtain ⟨ua, ub, uc, ud⟩ := box2k (blk_below BR3 hc2); obtain ⟨ta, tb, tc, td⟩ := box2k BT4) | (go_at_call 84; refine hck.mono ?_; rintro e W1 ⟨ma, mb, rfl, hR, hc1⟩; obtain ⟨m1, m2, d2, rfl, rfl, hA, hCo, hD, hT⟩ := hR HE.out; have hcb := below_step (below_step hb0 hc1) (below_one (.cells #[.map (some m1), .map (some m2)] 128)); have BX3 := blk_below (blk_below BX hc1) (below_one (.cells #[.map (some m1), .map (some m2)] 128)); have BR3 := blk_below (blk_below BR hc1) (below_one (.cells #[.map (some m1), .map (some m2)] 128)); have BT3 := blk_new W1 (.cells #[.map (some m1), .map (some m2)] 128); have hA3 := MapIs.later hA (below_one (.cells #[.map (some m1), .map (some m2)] 128)); obtain ⟨y0, y1, y2, y3⟩ := box2k BX3; obtain ⟨ya, yb, yc, yd⟩ := box2k BR3; have hE0 := HE.out; simp only [hE0]))
    unfold LockC
    obtain ⟨hN0, hN1, hcs⟩ := hSN
    have hb5 := below_step (below_step hcb hc2) hcs
    have sz1 := hcs.size
    have sz2 := (below_step hcb hc2).size
    have sz3 := hcb.size
    have own1 : ∀ k, some k = (Value.slice As l0.length cs).ownBlock → W2.heap.size ≤ k ∧ k < W5.heap.size := fun k hk => ⟨Kd.N_base hN0 k hk.symm, Kd.N_lt hN0 k hk.symm⟩
    have sz4 := (Array.getElem?_eq_some_iff.1 (blk_below BR3 hc2)).1
    have hN0a := Kd.N_below hN0 (below_one (w := W5) (.cells #[.slice As l0.length cs, .slice At l1.length ct] 81))
    have hN1b := Kd.N_mono (ok' := fun k => (k < W5.heap.size ∧ k ≠ w.heap.size + 1) ∧ some k ≠ (Value.slice As l0.length cs).ownBlock) (Kd.N_below (Kd.N_bound hN1) (below_one (w := W5) (.cells #[.slice As l0.length cs, .slice At l1.length ct] 81))) (fun k hk => ⟨⟨hk.2, by have := hk.1.1; omega⟩, hk.1.2⟩)
    have hs6 : W5.heap.size + 1 = (W5.alloc (.cells #[.slice As l0.length cs, .slice At l1.length ct] 81)).heap.size := (Array.size_push _).symm
    have hB6 := below_step hb5 (below_one (w := W5) (.cells #[.slice As l0.length cs, .slice At l1.length ct] 81))
    have hBR5 := blk_below (blk_below (blk_below BR3 hc2) hcs) (below_one (w := W5) (.cells #[.slice As l0.length cs, .slice At l1.length ct] 81))
    clear w0 w1 w2 w3
    generalize (W5.alloc (.cells #[.slice As l0.length cs, .slice At l1.length ct] 81)) = W6 at *
    rw [hs6]
    have hW6 := hB6.size
    refine Kd.N_append k124 (w0 := w) w.heap.size (by rfl) (.tmp 51) (.tmp 55) 78 124 (.agg #[(.string ⟨#[]⟩), (.int .i64 0)]) 24 (by rfl) Try.underlying78 info124 (by rfl) (by decide) (by decide) (.slice As l0.length cs) l0 (⟨name, ar⟩ : S124) [.string name, .int .i64 ar] (fun k => some k = (Value.slice As l0.length cs).ownBlock ∨ W5.heap.size + 1 ≤ k) (fun _ => False) (by rfl) (by rfl) (k124_mkF _ _ (⟨name, ar⟩ : S124)) (fun _ h => h.elim) (fun k hk => .inr (by omega)) (Kd.N_mono (Kd.N_lower hN0a (by omega)) (fun k hk => .inl hk)) hB6 hB6.size (by omega) ?_
    intro v7 w7 hN7 hB7 hg7 hat7
    obtain ⟨L0, hL0⟩ : ∃ L0 : List S124, L0 = l0 ++ [⟨name, ar⟩] := ⟨_, rfl⟩
    rw [← hL0] at hN7
    have HL0 := Aside0.mk hL0
    clear hL0
    obtain ⟨Av, cv, hv7⟩ := Kd.N_slice hN7
    subst hv7
    have hBT7 := (hg7.block W5.heap.size (by omega) (fun he => by have := own1 _ he; omega)).trans BTw
    have hBR7 := (hg7.block (w.heap.size + 1) (by omega) (fun he => by have := own1 _ he; omega)).trans hBR5
    have hN1c := Kd.N_grown hN1b hg7 (fun k hk => hk.2)
    obtain ⟨g0, g1, g2, g3⟩ := box2k hBT7
    obtain ⟨j0, j1, j2, j3⟩ := box2k hBR7
    have hne1 : W5.heap.size ≠ w.heap.size + 1 := by omega
    have hne2 : w.heap.size + 1 ≠ W5.heap.size := by omega
    go_wp2
    have hBRf := (Below.heap_setCell w7 ⟨W5.heap.size, 0, none⟩ (.slice Av L0.length cv) (w.heap.size + 1) hne2).trans hBR7
    refine bodyPost_ret (results_ct rfl _ _ (w.heap.size + 1) 81 #[.slice Av L0.length cv, .slice At l1.length ct] (0, 0) _ rfl (set2k hBRf) Try.underlying81 rfl (by kernel_rfl)) rfl ?_
    have o1 : ∀ k, (some k = (Value.slice As l0.length cs).ownBlock ∨ W5.heap.size + 1 ≤ k) → k ≠ W5.heap.size ∧ k ≠ w.heap.size + 1 := fun k hk => by
      rcases hk with hk | hk
      · have := own1 k hk
        omega
      · omega
    exact ⟨_, _, rfl, HL0.out ▸ Kd.N_mono (Kd.N_far (Kd.N_far (Kd.N_far hN7 (fun k hk => (o1 k hk).1) _) (fun k hk => (o1 k hk).2) _) (fun k hk => (o1 k hk).2) _) (fun _ _ => trivial),
      Kd.N_mono (Kd.N_far (Kd.N_far (Kd.N_far (Kd.N_lower hN1c (by omega)) (fun k hk => by have := hk.1.1; show k ≠ W5.heap.size; omega) _) (fun k hk => hk.1.2) _) (fun k hk => hk.1.2) _) (fun _ _ => trivial),
      below_set (below_set (below_set hB7 (by omega)) (by omega)) (by omega)⟩
  · rw [if_pos (by simpa using hE)] at hAE
    subst hAE
    have hE1 : (sigE l0 l1 != 0) = true := bne_iff_ne.mpr hE
    have hE2 : (sigE l0 l1 == 0) = false := beq_eq_false_iff_ne.mpr hE
    rw [if_neg hE, if_neg hE]
    clear htw hop
    go_enter Try.func51, Try.ntmps51
    go_wp2_with (go_at_call 84; refine hck.mono ?_; rintro e W1 ⟨ma, mb, rfl, hR, hc1⟩; have hcb := below_step (below_step hb0 hc1) (below_one (.cells #[.map ma, .map mb] 128)); have BX3 := blk_below (blk_below BX hc1) (below_one (.cells #[.map ma, .map mb] 128)); have BR3 := blk_below (blk_below BR hc1) (below_one (.cells #[.map ma, .map mb] 128)); obtain ⟨y0, y1, y2, y3⟩ := box2k BX3; obtain ⟨ya, yb, yc, yd⟩ := box2k BR3)
    refine bodyPost_ret (results_ct rfl _ _ (w.heap.size + 1) 81 #[.slice none 0 0, .slice none 0 0] (0, 0) _ rfl (set2k BR3) Try.underlying81 rfl (by kernel_rfl)) rfl ?_
    exact ⟨_, _, rfl, SigR.nil (below_set (below_set hcb (by omega)) (by omega))⟩
end Go.Proofs.Ytgnklkmifcmlhaa.Q
/- Proved here: the contract of signature.AddConst. Conditions: those that each theorem names. -/
namespace Go.Proofs.Ytgnklkmifcmlhaa.Q
open Go.RowKit Go.Shelf Go.Proofs.YtgnklkmifcmlhaaW.PrintWords Go.Proofs.YtgnklkmifcmlhaaW.PrintMore
set_option linter.unusedVariables false
set_option linter.unusedSimpArgs false
attribute [local go_sem] Oper.semAt_some

def adcE (l0 : List S124) (l1 : List S92) (name : ByteArray) (t : S25) : Int :=
  if sigE l0 l1 ≠ 0 then sigE l0 l1 else if chkB t = false then 10 else if nmC name = false then 2 else if overT (arD [] l0) t = false then 40 else if (lookK name (coD [] l1)).isSome = true then 41 else if l1.length = 512 then 4 else 0
theorem three_at (w : World) (o p q : Obj) : Below w.heap.size w (((w.alloc o).alloc p).alloc q) ∧ (((w.alloc o).alloc p).alloc q).heap[w.heap.size]? = some o ∧ (((w.alloc o).alloc p).alloc q).heap[w.heap.size + 1]? = some p ∧ (((w.alloc o).alloc p).alloc q).heap[w.heap.size + 1 + 1]? = some q := by
  have h := two_new w o p
  have hb := below_one (w := (w.alloc o).alloc p) q
  have e : ((w.alloc o).alloc p).heap.size = w.heap.size + 1 + 1 := (Array.size_push _).trans (congrArg (· + 1) (Array.size_push _))
  have hq := blk_new ((w.alloc o).alloc p) q
  rw [e] at hq
  exact ⟨below_step h.1 hb, blk_below h.2.1 hb, blk_below h.2.2 hb, hq⟩
set_option maxHeartbeats 4000000 in
set_option maxRecDepth 100000 in
theorem addconst_calls (A0 : Option Addr) (c0 : Nat) (l0 : List S124) (A1 : Option Addr) (c1 : Nat) (l1 : List S92) (name : ByteArray) (t : S25) (AT : Option Addr) (cT : Nat) (w : World) (hr0 : Kd.C k124 w A0 l0.length l0) (hc0 : l0.length ≤ c0) (hr1 : Kd.C k92 w A1 l1.length l1) (hc1 : l1.length ≤ c1)
    (h0 : ∀ x, x ∈ l0 → okS x.f0) (h1 : ∀ x, x ∈ l1 → okS x.f0 ∧ fit x.f1) (z0 : l0.length ≤ 100000) (z1 : l1.length ≤ 100000) (hz : ∀ x, x ∈ l1 → szL x.f1.f2 < 5864062014805) (hnm : okS name)
    (hrt : k25.C w AT t.f2.length t.f2) (hct : t.f2.length ≤ cT) (hft : fit t) (hzt : szL t.f2 < 5864062014805) :
    Calls Try.prog 53 #[.agg #[.slice A0 l0.length c0, .slice A1 l1.length c1], .string name, .agg #[.bool t.f0, .string t.f1, .slice AT t.f2.length cT]] w fun e w' => ∃ v0 v1, e = .returned (.tuple #[.agg #[v0, v1], .int .i64 (adcE l0 l1 name t)]) ∧ SigR w w' v0 v1 (if adcE l0 l1 name t = 0 then l0 else []) (if adcE l0 l1 name t = 0 then l1 ++ [⟨name, t⟩] else []) := by
  have hb0 := (three_at w (.cells #[.slice A0 l0.length c0, .slice A1 l1.length c1] 81) (.cells #[.bool t.f0, .string t.f1, .slice AT t.f2.length cT] 25) (.cells #[.slice none 0 0, .slice none 0 0] 81)).1
  have BX := (three_at w (.cells #[.slice A0 l0.length c0, .slice A1 l1.length c1] 81) (.cells #[.bool t.f0, .string t.f1, .slice AT t.f2.length cT] 25) (.cells #[.slice none 0 0, .slice none 0 0] 81)).2.1
  have BY := (three_at w (.cells #[.slice A0 l0.length c0, .slice A1 l1.length c1] 81) (.cells #[.bool t.f0, .string t.f1, .slice AT t.f2.length cT] 25) (.cells #[.slice none 0 0, .slice none 0 0] 81)).2.2.1
  have BR := (three_at w (.cells #[.slice A0 l0.length c0, .slice A1 l1.length c1] 81) (.cells #[.bool t.f0, .string t.f1, .slice AT t.f2.length cT] 25) (.cells #[.slice none 0 0, .slice none 0 0] 81)).2.2.2
  obtain ⟨x0, x1, _, _⟩ := box2k BX
  have hck := sigcheck_calls A0 c0 l0 A1 c1 l1 _ (Kd.C_below hr0 hb0) hc0 (Kd.C_below hr1 hb0) hc1 h0 h1
  have hop := fun W => operator_calls name hnm W
  have hct0 := fun W (hW : Below w.heap.size w W) => check0_calls t AT cT W hft (Kd.C_below hrt hW) hct
  have hov := fun (m1 : Nat) (v2 : Value) W (hW : Below w.heap.size w W) (hd : ArIs W m1 (arD [] l0)) => over_calls (arD [] l0) m1 v2 (szT t) t AT cT W (Nat.le_refl _) hd (Kd.C_below hrt hW) hct
  have htt := fun W (hW : Below w.heap.size w W) => types_Twin.calls t.f0 t.f1 AT cT t.f2 _ _ _ W (Kd.C_below hrt hW) hct (by unfold types_Twin.f; rw [if_pos hzt])
  have htw := fun W (hW : Below w.heap.size w W) => sigtwin_calls A0 c0 l0 A1 c1 l1 w W hW hr0 hc0 hr1 hc1 z0 z1 hz
  have hAE : adcE l0 l1 name t = adcE l0 l1 name t := rfl
  conv at hAE => rhs; unfold adcE
  clear hr0 hr1 h0 h1 hnm hz hrt hft hzt
  generalize adcE l0 l1 name t = AE at hAE ⊢
  by_cases hE : sigE l0 l1 = 0
  · rw [if_neg (by simpa using hE)] at hAE
    have HE := Aside0.mk hE
    cases hq : chkB t with
    | false =>
      rw [if_pos hq] at hAE
      rw [hq] at hct0
      simp only [Bool.false_eq_true, if_false] at hct0
      subst hAE
      rw [if_neg (by decide), if_neg (by decide)]
      clear htw htt hov hop
      go_enter Try.func53, Try.ntmps53
      go_wp2_with (first | (go_at_call 28; refine (hct0 _ hcb).mono ?_; rintro e W2 ⟨rfl, hc2⟩; obtain ⟨ya', yb', yc', yd'⟩ := box2k (blk_below BR3 hc2)) | (go_at_call 84; refine hck.mono ?_; rintro e W1 ⟨ma, mb, rfl, hR, hc1⟩; obtain ⟨m1, m2, d2, rfl, rfl, hA, hCo, hD, hT⟩ := hR HE.out; have hcb := below_step (below_step hb0 hc1) (below_one (.cells #[.map (some m1), .map (some m2)] 128)); have BX3 := blk_below (blk_below BX hc1) (below_one (.cells #[.map (some m1), .map (some m2)] 128)); have BY3 := blk_below (blk_below BY hc1) (below_one (.cells #[.map (some m1), .map (some m2)] 128)); have BR3 := blk_below (blk_below BR hc1) (below_one (.cells #[.map (some m1), .map (some m2)] 128)); have BT3 := blk_new W1 (.cells #[.map (some m1), .map (some m2)] 128); have hA3 := MapIs.later hA (below_one (.cells #[.map (some m1), .map (some m2)] 128)); have hC3 := MapIs.later hCo (below_one (.cells #[.map (some m1), .map (some m2)] 128)); obtain ⟨y0, y1, y2, y3⟩ := box2k BX3; obtain ⟨yr, ys, yt, yu, yv, yw, yx⟩ := box3s BY3; obtain ⟨ya, yb, yc, yd⟩ := box2k BR3; have hE0 := HE.out; simp only [hE0]))
      refine bodyPost_ret (results_ct rfl _ _ (w.heap.size + 1 + 1) 81 #[.slice none 0 0, .slice none 0 0] (0, 0) _ rfl (set2k (blk_below BR3 hc2)) Try.underlying81 rfl (by kernel_rfl)) rfl ?_
      exact ⟨_, _, rfl, SigR.nil (below_set (below_set (below_step hcb hc2) (by omega)) (by omega))⟩
    | true =>
    rw [if_neg (by rw [hq]; simp)] at hAE
    rw [hq] at hct0
    simp only [if_true] at hct0
    cases hn : nmC name with
    | false =>
      rw [if_pos hn] at hAE
      rw [hn] at hop
      subst hAE
      rw [if_neg (by decide), if_neg (by decide)]
      clear htw htt hov
      go_enter Try.func53, Try.ntmps53
      go_wp2_with (first | (go_at_call 85; refine (hop _).mono ?_; rintro e W3 ⟨rfl, hc3⟩; have BY4 := blk_below (blk_below BY3 hc2) hc3; have BT4 := blk_below (blk_below BT3 hc2) hc3; obtain ⟨u0, u1, u2, u3⟩ := box2k BT4; obtain ⟨ur, us, ut, uu, uv, uw, ux⟩ := box3s BY4; obtain ⟨ua, ub, uc, ud⟩ := box2k (blk_below (blk_below BR3 hc2) hc3)) | (go_at_call 28; refine (hct0 _ hcb).mono ?_; rintro e W2 ⟨rfl, hc2⟩; obtain ⟨ya', yb', yc', yd'⟩ := box2k (blk_below BR3 hc2)) | (go_at_call 84; refine hck.mono ?_; rintro e W1 ⟨ma, mb, rfl, hR, hc1⟩; obtain ⟨m1, m2, d2, rfl, rfl, hA, hCo, hD, hT⟩ := hR HE.out; have hcb := below_step (below_step hb0 hc1) (below_one (.cells #[.map (some m1), .map (some m2)] 128)); have BX3 := blk_below (blk_below BX hc1) (below_one (.cells #[.map (some m1), .map (some m2)] 128)); have BY3 := blk_below (blk_below BY hc1) (below_one (.cells #[.map (some m1), .map (some m2)] 128)); have BR3 := blk_below (blk_below BR hc1) (below_one (.cells #[.map (some m1), .map (some m2)] 128)); have BT3 := blk_new W1 (.cells #[.map (some m1), .map (some m2)] 128); have hA3 := MapIs.later hA (below_one (.cells #[.map (some m1), .map (some m2)] 128)); have hC3 := MapIs.later hCo (below_one (.cells #[.map (some m1), .map (some m2)] 128)); obtain ⟨y0, y1, y2, y3⟩ := box2k BX3; obtain ⟨yr, ys, yt, yu, yv, yw, yx⟩ := box3s BY3; obtain ⟨ya, yb, yc, yd⟩ := box2k BR3; have hE0 := HE.out; simp only [hE0]))
      refine bodyPost_ret (results_ct rfl _ _ (w.heap.size + 1 + 1) 81 #[.slice none 0 0, .slice none 0 0] (0, 0) _ rfl (set2k (blk_below (blk_below BR3 hc2) hc3)) Try.underlying81 rfl (by kernel_rfl)) rfl ?_
      exact ⟨_, _, rfl, SigR.nil (below_set (below_set (below_step (below_step hcb hc2) hc3) (by omega)) (by omega))⟩
    | true =>
    rw [if_neg (by rw [hn]; simp)] at hAE
    rw [hn] at hop
    cases ho : overT (arD [] l0) t with
    | false =>
      rw [if_pos ho] at hAE
      rw [ho] at hov
      subst hAE
      rw [if_neg (by decide), if_neg (by decide)]
      clear htw htt
      go_enter Try.func53, Try.ntmps53
      go_wp2_with (first | (go_at_call 91; refine (hov m1 (.map (some m2)) _ (below_step (below_step hcb hc2) hc3) (MapIs.later (MapIs.later hA3 hc2) hc3)).mono ?_; rintro e W4 ⟨rfl, hc4⟩; have BT5 := blk_below BT4 hc4; have BX5 := blk_below (blk_below (blk_below BX3 hc2) hc3) hc4; obtain ⟨t0, t1, t2, t3⟩ := box2k BT5; obtain ⟨s0, s1, s2, s3⟩ := box2k BX5; have rl := CoIs.look (MapIs.later (MapIs.later (MapIs.later hC3 hc2) hc3) hc4) name; obtain ⟨sa, sb, sc, sd⟩ := box2k (blk_below (blk_below (blk_below BR3 hc2) hc3) hc4)) | (go_at_call 85; refine (hop _).mono ?_; rintro e W3 ⟨rfl, hc3⟩; have BY4 := blk_below (blk_below BY3 hc2) hc3; have BT4 := blk_below (blk_below BT3 hc2) hc3; obtain ⟨u0, u1, u2, u3⟩ := box2k BT4; obtain ⟨ur, us, ut, uu, uv, uw, ux⟩ := box3s BY4; obtain ⟨ua, ub, uc, ud⟩ := box2k (blk_below (blk_below BR3 hc2) hc3)) | (go_at_call 28; refine (hct0 _ hcb).mono ?_; rintro e W2 ⟨rfl, hc2⟩; obtain ⟨ya', yb', yc', yd'⟩ := box2k (blk_below BR3 hc2)) | (go_at_call 84; refine hck.mono ?_; rintro e W1 ⟨ma, mb, rfl, hR, hc1⟩; obtain ⟨m1, m2, d2, rfl, rfl, hA, hCo, hD, hT⟩ := hR HE.out; have hcb := below_step (below_step hb0 hc1) (below_one (.cells #[.map (some m1), .map (some m2)] 128)); have BX3 := blk_below (blk_below BX hc1) (below_one (.cells #[.map (some m1), .map (some m2)] 128)); have BY3 := blk_below (blk_below BY hc1) (below_one (.cells #[.map (some m1), .map (some m2)] 128)); have BR3 := blk_below (blk_below BR hc1) (below_one (.cells #[.map (some m1), .map (some m2)] 128)); have BT3 := blk_new W1 (.cells #[.map (some m1), .map (some m2)] 128); have hA3 := MapIs.later hA (below_one (.cells #[.map (some m1), .map (some m2)] 128)); have hC3 := MapIs.later hCo (below_one (.cells #[.map (some m1), .map (some m2)] 128)); obtain ⟨y0, y1, y2, y3⟩ := box2k BX3; obtain ⟨yr, ys, yt, yu, yv, yw, yx⟩ := box3s BY3; obtain ⟨ya, yb, yc, yd⟩ := box2k BR3; have hE0 := HE.out; simp only [hE0]))
      refine bodyPost_ret (results_ct rfl _ _ (w.heap.size + 1 + 1) 81 #[.slice none 0 0, .slice none 0 0] (0, 0) _ rfl (set2k (blk_below (blk_below (blk_below BR3 hc2) hc3) hc4)) Try.underlying81 rfl (by kernel_rfl)) rfl ?_
      exact ⟨_, _, rfl, SigR.nil (below_set (below_set (below_step (below_step (below_step hcb hc2) hc3) hc4) (by omega)) (by omega))⟩
    | true =>
    rw [if_neg (by rw [ho]; simp)] at hAE
    rw [ho] at hov
    cases hlk : lookK name (coD [] l1) with
    | some p =>
      rw [hlk, if_pos (show (some p).isSome = true from rfl)] at hAE
      subst hAE
      rw [if_neg (by decide), if_neg (by decide)]
      clear htw htt
      go_enter Try.func53, Try.ntmps53
      go_wp2_with (first | (go_at_call 91; refine (hov m1 (.map (some m2)) _ (below_step (below_step hcb hc2) hc3) (MapIs.later (MapIs.later hA3 hc2) hc3)).mono ?_; rintro e W4 ⟨rfl, hc4⟩; have BT5 := blk_below BT4 hc4; have BX5 := blk_below (blk_below (blk_below BX3 hc2) hc3) hc4; obtain ⟨t0, t1, t2, t3⟩ := box2k BT5; obtain ⟨s0, s1, s2, s3⟩ := box2k BX5; have rl := CoIs.look (MapIs.later (MapIs.later (MapIs.later hC3 hc2) hc3) hc4) name; obtain ⟨sa, sb, sc, sd⟩ := box2k (blk_below (blk_below (blk_below BR3 hc2) hc3) hc4); have hl2 := bare_look name d2; rw [hD, hlk] at hl2; obtain ⟨⟨pt, pA, pc⟩, hpp, hpe⟩ := Option.map_eq_some_iff.1 hl2.symm; rw [hpp] at rl; clear hpe hl2 hpp; simp only [Option.map_some, Option.getD_some, Option.isSome_some, tyV] at rl; have hb6 := below_step (below_step (below_step (below_step hcb hc2) hc3) hc4) (below_one (w := W4) (.cells #[.bool pt.f0, .string pt.f1, .slice pA pt.f2.length pc] 25)); have BX6 := blk_below BX5 (below_one (.cells #[.bool pt.f0, .string pt.f1, .slice pA pt.f2.length pc] 25)); have BR6 := blk_below (blk_below (blk_below (blk_below BR3 hc2) hc3) hc4) (below_one (.cells #[.bool pt.f0, .string pt.f1, .slice pA pt.f2.length pc] 25)); have BY6 := blk_below (blk_below BY4 hc4) (below_one (.cells #[.bool pt.f0, .string pt.f1, .slice pA pt.f2.length pc] 25)); obtain ⟨s0', s1', s2', s3'⟩ := box2k BX6; obtain ⟨sa', sb', sc', sd'⟩ := box2k BR6; obtain ⟨sp, sq, sr, ss, st, su, sv⟩ := box3s BY6) | (go_at_call 85; refine (hop _).mono ?_; rintro e W3 ⟨rfl, hc3⟩; have BY4 := blk_below (blk_below BY3 hc2) hc3; have BT4 := blk_below (blk_below BT3 hc2) hc3; obtain ⟨u0, u1, u2, u3⟩ := box2k BT4; obtain ⟨ur, us, ut, uu, uv, uw, ux⟩ := box3s BY4; obtain ⟨ua, ub, uc, ud⟩ := box2k (blk_below (blk_below BR3 hc2) hc3)) | (go_at_call 28; refine (hct0 _ hcb).mono ?_; rintro e W2 ⟨rfl, hc2⟩; obtain ⟨ya', yb', yc', yd'⟩ := box2k (blk_below BR3 hc2)) | (go_at_call 84; refine hck.mono ?_; rintro e W1 ⟨ma, mb, rfl, hR, hc1⟩; obtain ⟨m1, m2, d2, rfl, rfl, hA, hCo, hD, hT⟩ := hR HE.out; have hcb := below_step (below_step hb0 hc1) (below_one (.cells #[.map (some m1), .map (some m2)] 128)); have BX3 := blk_below (blk_below BX hc1) (below_one (.cells #[.map (some m1), .map (some m2)] 128)); have BY3 := blk_below (blk_below BY hc1) (below_one (.cells #[.map (some m1), .map (some m2)] 128)); have BR3 := blk_below (blk_below BR hc1) (below_one (.cells #[.map (some m1), .map (some m2)] 128)); have BT3 := blk_new W1 (.cells #[.map (some m1), .map (some m2)] 128); have hA3 := MapIs.later hA (below_one (.cells #[.map (some m1), .map (some m2)] 128)); have hC3 := MapIs.later hCo (below_one (.cells #[.map (some m1), .map (some m2)] 128)); obtain ⟨y0, y1, y2, y3⟩ := box2k BX3; obtain ⟨yr, ys, yt, yu, yv, yw, yx⟩ := box3s BY3; obtain ⟨ya, yb, yc, yd⟩ := box2k BR3; have hE0 := HE.out; simp only [hE0]))
      refine bodyPost_ret (results_ct rfl _ _ (w.heap.size + 1 + 1) 81 #[.slice none 0 0, .slice none 0 0] (0, 0) _ rfl (set2k BR6) Try.underlying81 rfl (by kernel_rfl)) rfl ?_
      exact ⟨_, _, rfl, SigR.nil (below_set (below_set hb6 (by omega)) (by omega))⟩
    | none =>
    rw [hlk, if_neg (by simp)] at hAE
    by_cases pl : l1.length = 512
    · rw [if_pos pl] at hAE
      have pl'' : ((l1.length : Int) == 512) = true := by simp; omega
      clear pl
      subst hAE
      rw [if_neg (by decide), if_neg (by decide)]
      clear htw htt
      go_enter Try.func53, Try.ntmps53
      go_wp2_with (first | (go_at_call 91; refine (hov m1 (.map (some m2)) _ (below_step (below_step hcb hc2) hc3) (MapIs.later (MapIs.later hA3 hc2) hc3)).mono ?_; rintro e W4 ⟨rfl, hc4⟩; have BT5 := blk_below BT4 hc4; have BX5 := blk_below (blk_below (blk_below BX3 hc2) hc3) hc4; obtain ⟨t0, t1, t2, t3⟩ := box2k BT5; obtain ⟨s0, s1, s2, s3⟩ := box2k BX5; have rl := CoIs.look (MapIs.later (MapIs.later (MapIs.later hC3 hc2) hc3) hc4) name; obtain ⟨sa, sb, sc, sd⟩ := box2k (blk_below (blk_below (blk_below BR3 hc2) hc3) hc4); have hl2 := bare_look name d2; rw [hD, hlk] at hl2; have hpp := Option.map_eq_none_iff.1 hl2.symm; rw [hpp] at rl; simp only [Option.map_none, Option.getD_none, Option.isSome_none] at rl; have hb6 := below_step (below_step (below_step (below_step hcb hc2) hc3) hc4) (below_one (w := W4) (.cells #[.bool false, .string ⟨#[]⟩, .slice none 0 0] 25)); have BX6 := blk_below BX5 (below_one (.cells #[.bool false, .string ⟨#[]⟩, .slice none 0 0] 25)); have BR6 := blk_below (blk_below (blk_below (blk_below BR3 hc2) hc3) hc4) (below_one (.cells #[.bool false, .string ⟨#[]⟩, .slice none 0 0] 25)); have BY6 := blk_below (blk_below BY4 hc4) (below_one (.cells #[.bool false, .string ⟨#[]⟩, .slice none 0 0] 25)); obtain ⟨s0', s1', s2', s3'⟩ := box2k BX6; obtain ⟨sa', sb', sc', sd'⟩ := box2k BR6; obtain ⟨sp, sq, sr, ss, st, su, sv⟩ := box3s BY6) | (go_at_call 85; refine (hop _).mono ?_; rintro e W3 ⟨rfl, hc3⟩; have BY4 := blk_below (blk_below BY3 hc2) hc3; have BT4 := blk_below (blk_below BT3 hc2) hc3; obtain ⟨u0, u1, u2, u3⟩ := box2k BT4; obtain ⟨ur, us, ut, uu, uv, uw, ux⟩ := box3s BY4; obtain ⟨ua, ub, uc, ud⟩ := box2k (blk_below (blk_below BR3 hc2) hc3)) | (go_at_call 28; refine (hct0 _ hcb).mono ?_; rintro e W2 ⟨rfl, hc2⟩; obtain ⟨ya', yb', yc', yd'⟩ := box2k (blk_below BR3 hc2)) | (go_at_call 84; refine hck.mono ?_; rintro e W1 ⟨ma, mb, rfl, hR, hc1⟩; obtain ⟨m1, m2, d2, rfl, rfl, hA, hCo, hD, hT⟩ := hR HE.out; have hcb := below_step (below_step hb0 hc1) (below_one (.cells #[.map (some m1), .map (some m2)] 128)); have BX3 := blk_below (blk_below BX hc1) (below_one (.cells #[.map (some m1), .map (some m2)] 128)); have BY3 := blk_below (blk_below BY hc1) (below_one (.cells #[.map (some m1), .map (some m2)] 128)); have BR3 := blk_below (blk_below BR hc1) (below_one (.cells #[.map (some m1), .map (some m2)] 128)); have BT3 := blk_new W1 (.cells #[.map (some m1), .map (some m2)] 128); have hA3 := MapIs.later hA (below_one (.cells #[.map (some m1), .map (some m2)] 128)); have hC3 := MapIs.later hCo (below_one (.cells #[.map (some m1), .map (some m2)] 128)); obtain ⟨y0, y1, y2, y3⟩ := box2k BX3; obtain ⟨yr, ys, yt, yu, yv, yw, yx⟩ := box3s BY3; obtain ⟨ya, yb, yc, yd⟩ := box2k BR3; have hE0 := HE.out; simp only [hE0]))
      refine bodyPost_ret (results_ct rfl _ _ (w.heap.size + 1 + 1) 81 #[.slice none 0 0, .slice none 0 0] (0, 0) _ rfl (set2k BR6) Try.underlying81 rfl (by kernel_rfl)) rfl ?_
      exact ⟨_, _, rfl, SigR.nil (below_set (below_set hb6 (by omega)) (by omega))⟩
    rw [if_neg pl] at hAE
    have pl' : decide (l1.length = 512) = false := decide_eq_false pl
    have pl'' : ((l1.length : Int) == 512) = false := by simp; omega
    subst hAE
    rw [if_pos rfl, if_pos rfl]
    go_enter Try.func53, Try.ntmps53
    go_upto_region 17 with (first
      | (go_at_call 86; refine (htw _ hb6).mono ?_; rintro e W5 ⟨q0, q1, rfl, hSN⟩; obtain ⟨As, cs, hs0⟩ := Kd.N_slice hSN.1; subst hs0; obtain ⟨At, ct, hs1⟩ := Kd.N_slice hSN.2.1; subst hs1; have BTw := blk_new W5 (.cells #[.slice As l0.length cs, .slice At l1.length ct] 81)) | (go_at_call 91; refine (hov m1 (.map (some m2)) _ (below_step (below_step hcb hc2) hc3) (MapIs.later (MapIs.later hA3 hc2) hc3)).mono ?_; rintro e W4 ⟨rfl, hc4⟩; have BT5 := blk_below BT4 hc4; have BX5 := blk_below (blk_below (blk_below BX3 hc2) hc3) hc4; obtain ⟨t0, t1, t2, t3⟩ := box2k BT5; obtain ⟨s0, s1, s2, s3⟩ := box2k BX5; have rl := CoIs.look (MapIs.later (MapIs.later (MapIs.later hC3 hc2) hc3) hc4) name; obtain ⟨sa, sb, sc, sd⟩ := box2k (blk_below (blk_below (blk_below BR3 hc2) hc3) hc4); have hl2 := bare_look name d2; rw [hD, hlk] at hl2; have hpp := Option.map_eq_none_iff.1 hl2.symm; rw [hpp] at rl; simp only [Option.map_none, Option.getD_none, Option.isSome_none] at rl; have hb6 := below_step (below_step (below_step (below_step hcb hc2) hc3) hc4) (below_one (w := W4) (.cells #[.bool false, .string ⟨#[]⟩, .slice none 0 0] 25)); have BX6 := blk_below BX5 (below_one (.cells #[.bool false, .string ⟨#[]⟩, .slice none 0 0] 25)); have BR6 := blk_below (blk_below (blk_below (blk_below BR3 hc2) hc3) hc4) (below_one (.cells #[.bool false, .string ⟨#[]⟩, .slice none 0 0] 25)); have BY6 := blk_below (blk_below BY4 hc4) (below_one (.cells #[.bool false, .string ⟨#[]⟩, .slice none 0 0] 25)); obtain ⟨s0', s1', s2', s3'⟩ := box2k BX6; obtain ⟨sa', sb', sc', sd'⟩ := box2k BR6; obtain ⟨sp, sq, sr, ss, st, su, sv⟩ := box3s BY6) | (go_at_call 85; refine (hop _).mono ?_; rintro e W3 ⟨rfl, hc3⟩; have BY4 := blk_below (blk_below BY3 hc2) hc3; have BT4 := blk_below (blk_below BT3 hc2) hc3; obtain ⟨u0, u1, u2, u3⟩ := box2k BT4; obtain ⟨ur, us, ut, uu, uv, uw, ux⟩ := box3s BY4; obtain ⟨ua, ub, uc, ud⟩ := box2k (blk_below (blk_below BR3 hc2) hc3)) | (go_at_call 28; refine (hct0 _ hcb).mono ?_; rintro e W2 ⟨rfl, hc2⟩; obtain ⟨ya', yb', yc', yd'⟩ := box2k (blk_below BR3 hc2)) | (go_at_call 84; refine hck.mono ?_; rintro e W1 ⟨ma, mb, rfl, hR, hc1⟩; obtain ⟨m1, m2, d2, rfl, rfl, hA, hCo, hD, hT⟩ := hR HE.out; have hcb := below_step (below_step hb0 hc1) (below_one (.cells #[.map (some m1), .map (some m2)] 128)); have BX3 := blk_below (blk_below BX hc1) (below_one (.cells #[.map (some m1), .map (some m2)] 128)); have BY3 := blk_below (blk_below BY hc1) (below_one (.cells #[.map (some m1), .map (some m2)] 128)); have BR3 := blk_below (blk_below BR hc1) (below_one (.cells #[.map (some m1), .map (some m2)] 128)); have BT3 := blk_new W1 (.cells #[.map (some m1), .map (some m2)] 128); have hA3 := MapIs.later hA (below_one (.cells #[.map (some m1), .map (some m2)] 128)); have hC3 := MapIs.later hCo (below_one (.cells #[.map (some m1), .map (some m2)] 128)); obtain ⟨y0, y1, y2, y3⟩ := box2k BX3; obtain ⟨yr, ys, yt, yu, yv, yw, yx⟩ := box3s BY3; obtain ⟨ya, yb, yc, yd⟩ := box2k BR3; have hE0 := HE.out; simp only [hE0]))
    obtain ⟨hN0, hN1, hcs⟩ := hSN
    have sz4 := (Array.getElem?_eq_some_iff.1 BR6).1
    have BY5 := blk_below BY6 hcs
    have BR5 := blk_below BR6 hcs
    have hb5 := below_step hb6 hcs
    have sz5 := hcs.size
    clear BX6 BR6 BY6 s0' s1' s2' s3' sa' sb' sc' sd' sp sq sr ss st su sv
    generalize (W4.alloc (.cells #[.bool false, .string ⟨#[]⟩, .slice none 0 0] 25)) = Wq at *
    have own0 : ∀ k, some k = (Value.slice As l0.length cs).ownBlock → Wq.heap.size ≤ k ∧ k < W5.heap.size := fun k hk => ⟨Kd.N_base hN0 k hk.symm, Kd.N_lt hN0 k hk.symm⟩
    have own1 : ∀ k, some k = (Value.slice At l1.length ct).ownBlock → Wq.heap.size ≤ k ∧ k < W5.heap.size := fun k hk => ⟨Kd.N_base hN1 k hk.symm, Kd.N_lt hN1 k hk.symm⟩
    have hN1b := Kd.N_mono (ok' := fun k => (k < W5.heap.size ∧ k ≠ w.heap.size + 1 + 1 ∧ some k ≠ (Value.slice As l0.length cs).ownBlock) ∨ W5.heap.size + 1 ≤ k) (Kd.N_bound hN1) (fun k hk => .inl ⟨hk.2, by have := hk.1.1; omega, hk.1.2⟩)
    have hN0b := hN0
    have hN0c : ∀ g, some g = (Value.slice At l1.length ct).ownBlock → ¬ some g = (Value.slice As l0.length cs).ownBlock := fun g hg he => by
      obtain ⟨cells, hty⟩ := Kd.N_typed hN1 g hg.symm
      exact Kd.N_ne hN0 hty (by decide) he
    have hs6 : W5.heap.size + 1 = (W5.alloc (.cells #[.slice As l0.length cs, .slice At l1.length ct] 81)).heap.size := (Array.size_push _).symm
    have hd6 := below_one (w := W5) (.cells #[.slice As l0.length cs, .slice At l1.length ct] 81)
    have BY6 := blk_below BY5 hd6
    have BR6 := blk_below BR5 hd6
    have hB6 := below_step hb5 hd6
    have hN1c := Kd.N_below hN1b hd6
    have hN0d := Kd.N_below hN0b hd6
    generalize (W5.alloc (.cells #[.slice As l0.length cs, .slice At l1.length ct] 81)) = W6 at *
    have hdd := below_drew1 (Below.refl W6.heap.size W6)
    have hcall := htt W6.drew (below_step hB6 hdd)
    have hW6 := hB6.size
    obtain ⟨g0, g1, g2, g3⟩ := box2k BTw
    obtain ⟨i0, i1, i2, i3, i4, i5, i6⟩ := box3s BY6
    clear htw htt hN1b hN0b BY5 BR5 hN0 hN1 hd6
    have hne1 : W5.heap.size ≠ w.heap.size + 1 + 1 := by omega
    have hne2 : w.heap.size + 1 + 1 ≠ W5.heap.size := by omega
    have o1 : ∀ k, ((k < W5.heap.size ∧ k ≠ w.heap.size + 1 + 1 ∧ some k ≠ (Value.slice As l0.length cs).ownBlock) ∨ W5.heap.size + 1 ≤ k) → k ≠ W5.heap.size ∧ k ≠ w.heap.size + 1 + 1 := fun k hk => by
      rcases hk with ⟨h1, h2, _⟩ | hk
      · omega
      · omega
    have o0 : ∀ k, some k = (Value.slice As l0.length cs).ownBlock → k ≠ W5.heap.size ∧ k ≠ w.heap.size + 1 + 1 := fun k hk => by
      have := own0 k hk
      omega
    have O1 := Aside0.mk o1
    have O0 := Aside0.mk o0
    clear o1 o0
    go_region_law (first
      | (refine Kd.N_append_step k92 (w0 := w) (W := W7) w.heap.size (by rfl) (.tmp 55) (.tmp 60) 79 92 (.agg #[(.string ⟨#[]⟩), (.bool false), (.string ⟨#[]⟩), (.slice none 0 0)]) 64 rfl Try.underlying79 info92 rfl (by decide) (by decide) (.slice At l1.length ct) l1 (⟨name, t⟩ : S92) [.string name, .bool t.f0, .string t.f1, .slice A7 t.f2.length c7] (fun k => (k < W5.heap.size ∧ k ≠ w.heap.size + 1 + 1 ∧ some k ≠ (Value.slice As l0.length cs).ownBlock) ∨ W5.heap.size + 1 ≤ k) (fun k => W6.drew.heap.size ≤ k) rfl rfl ?aP ?aK ?aF ?aO ?aB ?aS ?aL ?_; (case aP => exact k92_mkF _ _ (⟨name, t⟩ : S92) hl7 hF7); (case aK => intro k hk; exact ⟨.inr (by simp at hk; omega), fun he => by have := own1 k he; simp at hk; omega⟩); (case aF => intro k hk; exact .inr (by omega)); (case aO => exact Kd.N_lower hN17 (by omega)); (case aB => exact hB7); (case aS => exact hB7.size); (case aL => omega); intro v8 w8 hN8 hB8 hg8 hat8; obtain ⟨L1, hL1⟩ : ∃ L1 : List S92, L1 = l1 ++ [⟨name, t⟩] := ⟨_, rfl⟩; rw [← hL1] at hN8; have HL1 := Aside0.mk hL1; clear hL1; obtain ⟨Av, cv, hv8⟩ := Kd.N_slice hN8; subst hv8; have hBT8 := (hg8.block W5.heap.size (by omega) (fun he => by have := own1 _ he; omega)).trans BT7; have hBR8 := (hg8.block (w.heap.size + 1 + 1) (by omega) (fun he => by have := own1 _ he; omega)).trans BR7; have hN08 := Kd.N_grown hN07 hg8 (fun k hk he => hN0c k he hk); obtain ⟨k0, k1, k2, k3⟩ := box2k hBT8)
      | (go_simp; go_at_call 27; (with_reducible refine hcall.mono ?_); rintro e W7 ⟨v7, rfl, hV7, hc7⟩; obtain ⟨A7, c7, rfl, hl7, hF7⟩ := hV7; have h67 := below_step hdd hc7; have sz7 : W6.heap.size ≤ W7.heap.size := h67.size; have hB7 := below_step hB6 h67; have BT7 := blk_below BTw h67; have BR7 := blk_below BR6 h67; have BY7 := blk_below BY6 h67; have hN17 := Kd.N_below hN1c h67; have hN07 := Kd.N_below hN0d h67; obtain ⟨g0', g1', g2', g3'⟩ := box2k BT7; obtain ⟨i0', i1', i2', i3', i4', i5', i6'⟩ := box3s BY7; obtain ⟨m0', m1', m2', m3'⟩ := box2k (blk_below BT7 (below_one (.cells #[.string name, .bool t.f0, .string t.f1, .slice A7 t.f2.length c7] 92)))))
    all_goals (obtain ⟨j0, j1, j2, j3⟩ := box2k hBR8)
    all_goals go_wp2
    all_goals (have hBRf := (Below.heap_setCell w8 ⟨W5.heap.size, 1, none⟩ (.slice Av L1.length cv) (w.heap.size + 1 + 1) hne2).trans hBR8)
    all_goals refine bodyPost_ret (results_ct rfl _ _ (w.heap.size + 1 + 1) 81 #[.slice As l0.length cs, .slice Av L1.length cv] (0, 0) _ rfl (set2k hBRf) Try.underlying81 rfl (by kernel_rfl)) rfl ?_
    all_goals exact ⟨_, _, rfl, Kd.N_mono (Kd.N_far (Kd.N_far (Kd.N_far (Kd.N_lower hN08 (by omega)) (fun k hk => (O0.out k hk).1) _) (fun k hk => (O0.out k hk).2) _) (fun k hk => (O0.out k hk).2) _) (fun _ _ => trivial),
      HL1.out ▸ Kd.N_mono (Kd.N_far (Kd.N_far (Kd.N_far hN8 (fun k hk => (O1.out k hk).1) _) (fun k hk => (O1.out k hk).2) _) (fun k hk => (O1.out k hk).2) _) (fun _ _ => trivial),
      below_set (below_set (below_set hB8 (by omega)) (by omega)) (by omega)⟩
  · rw [if_pos (by simpa using hE)] at hAE
    subst hAE
    have hE1 : (sigE l0 l1 != 0) = true := bne_iff_ne.mpr hE
    have hE2 : (sigE l0 l1 == 0) = false := beq_eq_false_iff_ne.mpr hE
    rw [if_neg hE, if_neg hE]
    clear htw hop htt hov hct0
    go_enter Try.func53, Try.ntmps53
    go_wp2_with (go_at_call 84; refine hck.mono ?_; rintro e W1 ⟨ma, mb, rfl, hR, hc1⟩; have hcb := below_step (below_step hb0 hc1) (below_one (.cells #[.map ma, .map mb] 128)); have BX3 := blk_below (blk_below BX hc1) (below_one (.cells #[.map ma, .map mb] 128)); have BR3 := blk_below (blk_below BR hc1) (below_one (.cells #[.map ma, .map mb] 128)); obtain ⟨y0, y1, y2, y3⟩ := box2k BX3; obtain ⟨ya, yb, yc, yd⟩ := box2k BR3)
    refine bodyPost_ret (results_ct rfl _ _ (w.heap.size + 1 + 1) 81 #[.slice none 0 0, .slice none 0 0] (0, 0) _ rfl (set2k BR3) Try.underlying81 rfl (by kernel_rfl)) rfl ?_
    exact ⟨_, _, rfl, SigR.nil (below_set (below_set hcb (by omega)) (by omega))⟩
end Go.Proofs.Ytgnklkmifcmlhaa.Q
