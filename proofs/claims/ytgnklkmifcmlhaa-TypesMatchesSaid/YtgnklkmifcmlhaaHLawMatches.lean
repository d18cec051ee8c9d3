/- Proved here: the walk of the law TypesMatches. Conditions: those that each theorem names. -/
import Derived.Test.YtgnklkmifcmlhaaHMatchR
import Derived.Test.YtgnklkmifcmlhaaHOpen
namespace Go.Proofs.Ytgnklkmifcmlhaa.Q
open Go.RowKit Go.Shelf Go.Proofs.YtgnklkmifcmlhaaW.PrintWords Go.Proofs.YtgnklkmifcmlhaaW.PrintMore
set_option linter.unusedVariables false
set_option linter.unusedSimpArgs false
attribute [local go_sem] Oper.semAt_some

def Lock (p : Prop) : Prop := p
theorem lock_ {p : Prop} (h : Lock p) : p := h
theorem own_empty (base : Nat) (W : World) (hb : base ≤ W.heap.size) : Kd.N k59 59 (W.alloc (.cells #[] 59)) base (fun _ => True) (.slice (some ⟨W.heap.size, 0, none⟩) 0 0) [] :=
  Kd.R_N ⟨fun _ _ => trivial, [], World.ownsRow_made W #[] 0 hb (by unfold maxLen; omega) rfl, Reps.none _ _⟩
set_option maxHeartbeats 2000000 in
set_option maxRecDepth 100000 in
theorem law_matches (p : S25) (A : Option Addr) (c : Nat) (t : S25) (B : Option Addr) (d : Nat) (s : List S59) (D : Option Addr) (f : Nat) (w : World) (hA : k25.C w A p.f2.length p.f2) (hc : p.f2.length ≤ c) (hwp : wd p)
    (hB : k25.C w B t.f2.length t.f2) (hd : t.f2.length ≤ d) (hwt : wd t) (hD : k59.C w D s.length s) (hf : s.length ≤ f) (hsl : s.length ≤ 4611686018427387904) (hws : ∀ b, b ∈ s → wdB b) :
    Calls Try.prog 4 #[.agg #[.bool p.f0, .string p.f1, .slice A p.f2.length c], .agg #[.bool t.f0, .string t.f1, .slice B t.f2.length d], .slice D s.length f] w fun e w' => e = .returned (.bool true) ∧ Below w.heap.size w w' := by
  obtain ⟨k0, h0⟩ := (great_ev p hwp).at
  obtain ⟨k1, h1⟩ := (great_ev t hwt).at
  obtain ⟨k2, h2⟩ := (greats_ev s hws).at
  have h14p := fun W (hw : Below w.heap.size w W) => sequentref01_Great.calls k0 p.f0 p.f1 A c p.f2 _ W (Kd.C_below hA hw) hc h0
  have h14t := fun W (hw : Below w.heap.size w W) => sequentref01_Great.calls k1 t.f0 t.f1 B d t.f2 _ W (Kd.C_below hB hw) hd h1
  have h13 := fun W (hw : Below w.heap.size w W) => sequentref01_GreatBinds.calls k2 D f s _ W (Kd.C_below hD hw) hf h2
  have hb0 := below_two (w := w) (.cells #[.bool p.f0, .string p.f1, .slice A p.f2.length c] 25) (.cells #[.bool t.f0, .string t.f1, .slice B t.f2.length d] 25)
  have B30 := blk_mid (w := w) (.cells #[.bool p.f0, .string p.f1, .slice A p.f2.length c] 25) (.cells #[.bool t.f0, .string t.f1, .slice B t.f2.length d] 25)
  have B40 := blk_top (w := w) (.cells #[.bool p.f0, .string p.f1, .slice A p.f2.length c] 25) (.cells #[.bool t.f0, .string t.f1, .slice B t.f2.length d] 25)
  clear h0 h1 h2
  cases hg0 : greatB p with
  | true =>
    rw [hg0] at h14p
    clear h13 h14t hA hB hD hg0 hws hwt hwp
    go_enter Try.func4, Try.ntmps4
    go_wp2_with (go_at_call 14; refine (h14p _ hb0).mono ?_; rintro e W1 ⟨rfl, hc1⟩)
    go_ret
    exact ⟨rfl, below_step hb0 hc1⟩
  | false =>
    rw [hg0] at h14p
    cases hg1 : greatB t with
    | true =>
      rw [hg1] at h14t
      clear h13 hA hB hD hg0 hg1 hws hwt hwp
      go_enter Try.func4, Try.ntmps4
      go_wp2_with (first
        | (go_at_call 14; refine (h14t _ hb1).mono ?_; rintro e W2 ⟨rfl, hc2⟩)
        | (go_at_call 14; refine (h14p _ hb0).mono ?_; rintro e W1 ⟨rfl, hc1⟩; have hb1 := below_step hb0 hc1; have B31 := blk_below B30 hc1; have B41 := blk_below B40 hc1; obtain ⟨x0, x1, x2, x3, x4, x5, x6⟩ := box3s B31; obtain ⟨y0, y1, y2, y3, y4, y5, y6⟩ := box3s B41))
      go_ret
      exact ⟨rfl, below_step hb1 hc2⟩
    | false =>
      rw [hg1] at h14t
      cases hg2 : greatS s with
      | true =>
        rw [hg2] at h13
        clear hA hB hD hg0 hg1 hg2 hws hwt hwp
        go_enter Try.func4, Try.ntmps4
        go_wp2_with (first
          | (go_at_call 13; refine (h13 _ hb2).mono ?_; rintro e W3 ⟨rfl, hc3⟩)
          | (go_at_call 14; refine (h14t _ hb1).mono ?_; rintro e W2 ⟨rfl, hc2⟩; have hb2 := below_step hb1 hc2)
          | (go_at_call 14; refine (h14p _ hb0).mono ?_; rintro e W1 ⟨rfl, hc1⟩; have hb1 := below_step hb0 hc1; have B31 := blk_below B30 hc1; have B41 := blk_below B40 hc1; obtain ⟨x0, x1, x2, x3, x4, x5, x6⟩ := box3s B31; obtain ⟨y0, y1, y2, y3, y4, y5, y6⟩ := box3s B41))
        go_ret
        exact ⟨rfl, below_step hb2 hc3⟩
      | false =>
        rw [hg2] at h13
        have hpp := greatB_sz hg0
        have htt := greatB_sz hg1
        have hsm := (greatS_mem hg2).2
        have hs100 := (greatS_mem hg2).1
        have hfp := fit_of_wd hwp (by omega)
        have hft := fit_of_wd hwt (by omega)
        have hfs : ∀ b, b ∈ s → fitB b := fun b hb => ⟨(hws b hb).1, fit_of_wd (hws b hb).2 (by have := (hsm b hb).1; omega)⟩
        obtain ⟨k3, h3⟩ := (refmatch_ev p t s (by omega) hfs hfp hft).at
        have hmz := matchF_sz p t s (by omega)
        obtain ⟨k4, h4⟩ := (samebinds_ev s (by omega) (fun b hb => by have := (hsm b hb).1; omega)).at
        obtain ⟨k5, h5⟩ := (samebinds_ev (matchF p t s).1 (by omega) (fun b hb => by have := hmz.2 b hb; omega)).at
        have h20 := fun W D' f' (hw : Below w.heap.size w W) hD' hf' => match_walk p t s A c B d D' f' W (Kd.C_below hA hw) (Kd.C_below hB hw) hc hd hD' hf' hfp hft hfs (by omega)
        have h21 := fun W (hw : Below w.heap.size w W) => sequentref01_Match.calls k3 p.f0 p.f1 A c p.f2 t.f0 t.f1 B d t.f2 (fun k => k < W.heap.size) D f s (matchF p t s).1 (matchF p t s).2.1 (matchF p t s).2.2 W (Kd.C_below hA hw) hc (Kd.C_below hB hw) hd (Kd.V_mk hf (Kd.C_F k59_heap (Kd.C_below hD hw))) h3
        have h22a := fun W A1 c1 A2 c2 hA1 hc1 hA2 hc2 => sequentref01_SameBinds.calls k5 A1 c1 (matchF p t s).1 A2 c2 (matchF p t s).1 true W hA1 hc1 hA2 hc2 h5
        have h22b := fun W A1 c1 hA1 hc1 (hw : Below w.heap.size w W) => sequentref01_SameBinds.calls k4 A1 c1 s D f s true W hA1 hc1 (Kd.C_below hD hw) hf h4
        clear h3 h4 h5
        have HD := Aside0.mk hD
        clear hA hB hD hg0 hg1 hg2 hws hwt hwp hpp htt hsm hfp hft hfs hmz
        generalize hm : matchF p t s = r at *
        obtain ⟨l, b, q⟩ := r
        dsimp only at h22a h20 h21
        have hq : (q == q) = true := beq_self_eq_true q
        have hq2 : decide (q = q) = true := decide_eq_true rfl
        have hq3 : (b == b) = true := beq_self_eq_true b
        have hq4 : decide (b = b) = true := decide_eq_true rfl
        go_enter Try.func4, Try.ntmps4
        go_wp2_with (first
          | ((with_reducible refine gate_dst (N := 26) rfl ?_); refine lock_ ?_)
          | (go_at_call 13; refine (h13 _ hb2).mono ?_; rintro e W3 ⟨rfl, hc3⟩; have hb3 := below_step hb2 hc3; have B33 := blk_below B32 hc3; have B43 := blk_below B42 hc3; obtain ⟨x0, x1, x2, x3, x4, x5, x6⟩ := box3s B33; obtain ⟨y0, y1, y2, y3, y4, y5, y6⟩ := box3s B43)
          | (go_at_call 14; refine (h14t _ hb1).mono ?_; rintro e W2 ⟨rfl, hc2⟩; have hb2 := below_step hb1 hc2; have B32 := blk_below B31 hc2; have B42 := blk_below B41 hc2)
          | (go_at_call 14; refine (h14p _ hb0).mono ?_; rintro e W1 ⟨rfl, hc1⟩; have hb1 := below_step hb0 hc1; have B31 := blk_below B30 hc1; have B41 := blk_below B40 hc1; obtain ⟨x0, x1, x2, x3, x4, x5, x6⟩ := box3s B31; obtain ⟨y0, y1, y2, y3, y4, y5, y6⟩ := box3s B41))
        unfold Lock
        refine Kd.N_append_rows k59 (w0 := w) w.heap.size (by rfl) (.tmp 24) (.tmp 25) 22 59 (.agg #[(.string ⟨#[]⟩), (.bool false), (.string ⟨#[]⟩), (.slice none 0 0)]) 64 (by rfl) Try.underlying22 info59 (by rfl) (by decide) (by decide) (.slice (some ⟨W3.heap.size, 0, none⟩) 0 0) [] s D s.length f (fun _ => True) (fun k => k < w.heap.size) (by rfl) (by rfl) (own_empty _ W3 hb3.size) (Kd.F_below (Kd.C_F k59_heap HD.out) (hb3.alloc hb3.size _)) (fun k hk => ⟨trivial, fun he => by have := hb3.size; simp [Value.ownBlock] at he; omega⟩) (fun _ _ => trivial) (hb3.alloc hb3.size _) (Nat.le_trans hb3.size (by simp)) (by simp only [List.length_nil]; omega) ?_
        intro v5 W5 hN5 hb5 hg5 hat5
        rw [List.nil_append] at hN5
        have hV5 : Kd.V k59 59 W5 0 (fun _ => True) v5 s := Kd.N_V hN5
        obtain ⟨A5, c5, rfl⟩ := Kd.V_slice hV5
        obtain ⟨_, hl5, hC5b⟩ := Kd.V_reads' hV5
        have B35 := (hg5.block w.heap.size (by simp; omega) (by simp [Value.ownBlock]; omega)).trans (blk_alloc B33 (.cells #[] 59))
        have B45 := (hg5.block (w.heap.size + 1) (by simp; omega) (by simp [Value.ownBlock]; omega)).trans (blk_alloc B43 (.cells #[] 59))
        clear hN5 hV5 hg5 hat5
        obtain ⟨x0, x1, x2, x3, x4, x5, x6⟩ := box3s B35
        obtain ⟨y0, y1, y2, y3, y4, y5, y6⟩ := box3s B45
        clear h13 h14p h14t hc1 hc2 hc3 hb0 hb1 hb2 B30 B40 B31 B41 B32 B42
        go_wp2_with (first
          | (go_at_call 22; refine (h22b _ A5 c5 hC5c hl5 hb8).mono ?_; rintro e W9 ⟨rfl, hc9⟩; have hb9 := below_step hb8 hc9)
          | (go_at_call 22; (refine (h22a _ A6 c6 A7 c7 hC6b hl6 hC7 hl7).mono ?_; rintro e W8 ⟨rfl, hc8⟩; have hb8 := below_step hb7 hc8; have hC5c := Kd.C_below hC5b (hc6.trans (hc7.mono hc6.size |>.trans (hc8.mono (Nat.le_trans hc6.size hc7.size))))))
          | (go_at_call 21; refine (h21 _ hb6).mono ?_; rintro e W7 ⟨v7, rfl, hV7, hc7⟩; obtain ⟨A7, c7, rfl⟩ := Kd.V_slice hV7; obtain ⟨_, hl7, hC7⟩ := Kd.V_reads' hV7; have hb7 := below_step hb6 hc7; have hC6b := Kd.C_below hC6 hc7)
          | (go_at_call 20; refine (h20 _ A5 c5 hb5 hC5b hl5).mono ?_; rintro e W6 ⟨A6, c6, rfl, hl6, hC6, hc6⟩; dsimp only at hl6 hC6; have hb6 := below_step hb5 hc6; have B36 := blk_below B35 hc6; have B46 := blk_below B45 hc6; obtain ⟨x0, x1, x2, x3, x4, x5, x6⟩ := box3s B36; obtain ⟨y0, y1, y2, y3, y4, y5, y6⟩ := box3s B46))
        go_ret
        exact ⟨rfl, hb9⟩
end Go.Proofs.Ytgnklkmifcmlhaa.Q
