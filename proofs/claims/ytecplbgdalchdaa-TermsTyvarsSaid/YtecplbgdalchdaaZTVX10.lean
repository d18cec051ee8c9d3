/- Proved here: parts of the proof of a given statement (HRowTermsTyvars): contracts of the functions that it reaches, what they answer, and in the last text the statement itself. Conditions: those that each theorem names. -/
import Derived.Test.YtecplbgdalchdaaZTVX9
import Derived.Deep.RegionHeld3
import Derived.Deep.Cut
import Derived.Deep.CutRange
import Derived.Deep.CutBlock
/- Proved here: the contract of terms.Twin, walked. Conditions: those that each theorem names. -/
namespace Go.Proofs.Ytecplbgdalchdaa.Q
open Go.RowKit Go.Shelf Go.Proofs.YtecplbgdalchdaaW.PrintWords Go.Proofs.YtecplbgdalchdaaW.PrintMore
set_option linter.unusedVariables false
set_option linter.unusedSimpArgs false
attribute [local go_sem] Oper.semAt_some

theorem set7l {W : World} {g : Nat} {t : TypeId} {a0 a1 a2 a3 a4 a5 a6 v0 v1 v2 v3 v4 v5 v6 : Value} (h : W.heap[g]? = some (.cells #[a0, a1, a2, a3, a4, a5, a6] t (0, 0))) : ((((((((W).setCell ⟨g, 0, none⟩ v0).setCell ⟨g, 1, none⟩ v1).setCell ⟨g, 2, none⟩ v2).setCell ⟨g, 3, none⟩ v3).setCell ⟨g, 4, none⟩ v4).setCell ⟨g, 5, none⟩ v5).setCell ⟨g, 6, none⟩ v6).heap[g]? = some (.cells #[v0, v1, v2, v3, v4, v5, v6] t (0, 0)) := (blk_put (cs := #[v0, v1, v2, v3, v4, v5, a6]) (blk_put (cs := #[v0, v1, v2, v3, v4, a5, a6]) (blk_put (cs := #[v0, v1, v2, v3, a4, a5, a6]) (blk_put (cs := #[v0, v1, v2, a3, a4, a5, a6]) (blk_put (cs := #[v0, v1, a2, a3, a4, a5, a6]) (blk_put (cs := #[v0, a1, a2, a3, a4, a5, a6]) (blk_put (cs := #[a0, a1, a2, a3, a4, a5, a6]) h 0 _ rfl) 1 _ rfl) 2 _ rfl) 3 _ rfl) 4 _ rfl) 5 _ rfl) 6 _ rfl)
abbrev TwSM (w wr : World) (x : S27) (A2 : Option Addr) (c2 : Nat) (A3 : Option Addr) (c3 : Nat) (u : Value) (W : World) : Prop := W.cell? ⟨wr.heap.size, 0, none⟩ = some (.int .u8 x.f0) ∧ W.cell? ⟨wr.heap.size, 1, none⟩ = some (.string x.f1) ∧ W.cell? ⟨wr.heap.size, 2, none⟩ = some (.bool x.f2.f0) ∧ W.cell? ⟨wr.heap.size, 3, none⟩ = some (.string x.f2.f1) ∧ W.cell? ⟨wr.heap.size, 4, none⟩ = some (.slice A2 x.f2.f2.length c2) ∧ W.cell? ⟨wr.heap.size, 5, none⟩ = some (.int .i64 x.f3) ∧ W.cell? ⟨wr.heap.size, 6, none⟩ = some (.slice A3 x.f4.length c3) ∧ W.cell? ⟨w.heap.size, 6, none⟩ = some u ∧ Below w.heap.size w W
section
variable {w wr W W' : World} {x : S27} {A2 A3 : Option Addr} {c2 c3 : Nat} {u : Value}
theorem TwSM.step (h : TwSM w wr x A2 c2 A3 c3 u W) (hb : Below W.heap.size W W') : TwSM w wr x A2 c2 A3 c3 u W' := by
  obtain ⟨h0, h1, h2, h3, h4, h5, h6, h7, h8⟩ := h
  exact ⟨pw_cell_below hb h0, pw_cell_below hb h1, pw_cell_below hb h2, pw_cell_below hb h3, pw_cell_below hb h4, pw_cell_below hb h5, pw_cell_below hb h6, pw_cell_below hb h7, below_step h8 hb⟩
theorem TwSM.put {gs b : Nat} (hlt : gs < wr.heap.size) (hg : w.heap.size + 2 ≤ gs) (h : TwSM w wr x A2 c2 A3 c3 u W) (v0 v1 v2 v3 v4 v5 v6 : Value) : TwSM w wr x A2 c2 A3 c3 u ((((((((W).setCell ⟨gs, b, none⟩ (v0)).setCell ⟨gs, b + 1, none⟩ (v1)).setCell ⟨gs, b + 2, none⟩ (v2)).setCell ⟨gs, b + 3, none⟩ (v3)).setCell ⟨gs, b + 4, none⟩ (v4)).setCell ⟨gs, b + 5, none⟩ (v5)).setCell ⟨gs, b + 6, none⟩ (v6)) := by
  obtain ⟨h0, h1, h2, h3, h4, h5, h6, h7, h8⟩ := h
  have n1 : wr.heap.size ≠ gs := by omega
  have n2 : w.heap.size ≠ gs := by omega
  have f : ∀ {p : Addr} {z : Value}, W.cell? p = some z → p.block ≠ gs → ((((((((W).setCell ⟨gs, b, none⟩ (v0)).setCell ⟨gs, b + 1, none⟩ (v1)).setCell ⟨gs, b + 2, none⟩ (v2)).setCell ⟨gs, b + 3, none⟩ (v3)).setCell ⟨gs, b + 4, none⟩ (v4)).setCell ⟨gs, b + 5, none⟩ (v5)).setCell ⟨gs, b + 6, none⟩ (v6)).cell? p = some z := fun hc hp => cell_away (cell_away (cell_away (cell_away (cell_away (cell_away (cell_away hc hp) hp) hp) hp) hp) hp) hp
  exact ⟨f h0 n1, f h1 n1, f h2 n1, f h3 n1, f h4 n1, f h5 n1, f h6 n1, f h7 n2, S7.below v0 v1 v2 v3 v4 v5 v6 h8 (by omega)⟩
end
set_option maxHeartbeats 1000000 in
set_option maxRecDepth 100000 in
theorem twinM_calls : ∀ (n : Nat) (t : S27) (A : Option Addr) (c : Nat) (B : Option Addr) (d : Nat) (w : World), szM t ≤ n → fitM t → RdM w t A c B d →
    Calls Try.prog 28 #[.agg #[.int .u8 t.f0, .string t.f1, .bool t.f2.f0, .string t.f2.f1, .slice A t.f2.f2.length c, .int .i64 t.f3, .slice B t.f4.length d]] w fun e w' => ∃ r, e = .returned r ∧ OwM w' (fun k => w.heap.size ≤ k) r t ∧ Below w.heap.size w w'
  | 0, t, _, _, _, _, _, h, _, _ => by have := szM_pos t; omega
  | n + 1, t, A, c, B, d, w, hn, hf, hX => by
    have hft := (allM_top hf.1).2.2.1
    have ih := fun (kk : Nat) (hk : kk < t.f4.length) A c B d W hx => twinM_calls n (rd_T27 t.f4 (kk : Int)) A c B d W (by
      have := szM_sub (getD_mem t.f4 z27 kk hk)
      show szM (t.f4.getD kk z27) ≤ n
      omega) (fitM_sub hf (getD_mem t.f4 z27 kk hk)) hx
    have hlen : t.f4.length ≤ 1000000000 := by
      have h2 := szM_eq t
      have h3 := szML_len t.f4
      have := hf.2
      omega
    have hb0 := (two_new w (.cells #[.int .u8 t.f0, .string t.f1, .bool t.f2.f0, .string t.f2.f1, .slice A t.f2.f2.length c, .int .i64 t.f3, .slice B t.f4.length d] 27) (.cells #[.int .u8 0, .string ⟨#[]⟩, .bool false, .string ⟨#[]⟩, .slice none 0 0, .int .i64 0, .slice none 0 0] 27)).1
    have BX := (two_new w (.cells #[.int .u8 t.f0, .string t.f1, .bool t.f2.f0, .string t.f2.f1, .slice A t.f2.f2.length c, .int .i64 t.f3, .slice B t.f4.length d] 27) (.cells #[.int .u8 0, .string ⟨#[]⟩, .bool false, .string ⟨#[]⟩, .slice none 0 0, .int .i64 0, .slice none 0 0] 27)).2.1
    have BR := (two_new w (.cells #[.int .u8 t.f0, .string t.f1, .bool t.f2.f0, .string t.f2.f1, .slice A t.f2.f2.length c, .int .i64 t.f3, .slice B t.f4.length d] 27) (.cells #[.int .u8 0, .string ⟨#[]⟩, .bool false, .string ⟨#[]⟩, .slice none 0 0, .int .i64 0, .slice none 0 0] 27)).2.2
    have htw := fun W (hw : Below w.heap.size w W) => twin_calls (szT t.f2) t.f2 A c W (Nat.le_refl _) (by omega) (Kd.C_below hX.1.1 hw) hX.1.2
    obtain ⟨x0, x1, x2, x3, x4, x5, x6⟩ := box7 BX
    have HX := Aside0.mk hX.2
    have IH := Aside0.mk ih
    clear hX ih hf hft hn
    rcases Nat.eq_zero_or_pos t.f4.length with h0 | h0
    · have d0 : decide (0 < t.f4.length) = false := decide_eq_false (by omega)
      have HL := Aside0.mk (List.length_eq_zero_iff.1 h0)
      clear h0
      go_enter Try.func28, Try.ntmps28
      go_upto_region 3 with (go_at_call 99; (with_reducible refine (htw _ hb0).mono ?_); rintro e w3 ⟨v, rfl, hT, hb3⟩; obtain ⟨At, ct, hv3, hl3, hC3⟩ := hT.reads; subst hv3; have BX3 := blk_below BX hb3; have BR3 := blk_below BR hb3; obtain ⟨x0, x1, x2, x3, x4, x5, x6⟩ := box7 BX3; have f2 := blk_frozen BX3 2; have f3 := blk_frozen BX3 3; have f4 := blk_frozen BX3 4; have f6 := blk_frozen BX3 6)
      have hW4 : ∃ W4, (((w3.setCell ⟨w.heap.size, 2, none⟩ (.bool t.f2.f0)).setCell ⟨w.heap.size, 3, none⟩ (.string t.f2.f1)).setCell ⟨w.heap.size, 4, none⟩ (.slice At t.f2.f2.length ct)).setCell ⟨w.heap.size, 6, none⟩ (.slice none 0 0) = W4 := ⟨_, rfl⟩
      obtain ⟨W4, hW4⟩ := hW4
      have hs3 := blk_lt BR3
      have hs4 : W4.heap.size = w3.heap.size := by rw [← hW4]; simp
      have hk4 : ∀ k, k ≠ w.heap.size → W4.heap[k]? = w3.heap[k]? := fun k hk => by rw [← hW4, Below.heap_setCell _ _ _ k hk, Below.heap_setCell _ _ _ k hk, Below.heap_setCell _ _ _ k hk, Below.heap_setCell _ _ _ k hk]
      have BX4 : W4.heap[w.heap.size]? = some (.cells #[.int .u8 t.f0, .string t.f1, .bool t.f2.f0, .string t.f2.f1, .slice At t.f2.f2.length ct, .int .i64 t.f3, .slice none 0 0] 27 (0, 0)) := by
        rw [← hW4]
        exact blk_put (blk_put (blk_put (blk_put BX3 2 _ rfl) 3 _ rfl) 4 _ rfl) 6 _ rfl
      have BR4 : W4.heap[w.heap.size + 1]? = some (.cells #[.int .u8 0, .string ⟨#[]⟩, .bool false, .string ⟨#[]⟩, .slice none 0 0, .int .i64 0, .slice none 0 0] 27 (0, 0)) := (hk4 _ (by omega)).trans BR3
      have hb4 : Below w.heap.size w W4 := by rw [← hW4]; exact ((((below_step hb0 hb3).setCell (Nat.le_refl _) _).setCell (Nat.le_refl _) _).setCell (Nat.le_refl _) _).setCell (Nat.le_refl _) _
      have hT4 : WT W4 (fun k => w.heap.size + 2 ≤ k ∧ k < W4.heap.size) (.slice At t.f2.f2.length ct) t.f2.f2 := by
        have := hT.bound.step (w1 := W4) (fun k hk _ => hk4 k (by have := hk.1; simp at this; omega))
        exact this.mono (fun k hk => ⟨by have := hk.1; simp at this; omega, by omega⟩)
      obtain ⟨x0, x1, x2, x3, x4, x5, x6⟩ := box7 BX4
      have f6 := blk_frozen BX4 6
      rw [hW4]
      clear hW4 hk4 hT BX3 BR3 hC3 f2 f3 f4 hb3 hb0 BX BR htw
      clear hs4 hs3
      go_wp2_with fail
      go_loopg [22] 1 (fun gg v22 wr => v22 = .int .i64 0 ∧ wr = W4)
      case atStart => exact ⟨rfl, rfl⟩
      case round =>
        obtain ⟨rfl, rfl⟩ := hrel
        obtain ⟨e0, e1, e2, e3, e4, e5, e6⟩ := box7 BR4
        have g0 := blk_frozen BR4 0
        have g1 := blk_frozen BR4 1
        have g2 := blk_frozen BR4 2
        have g3 := blk_frozen BR4 3
        have g4 := blk_frozen BR4 4
        have g5 := blk_frozen BR4 5
        have g6 := blk_frozen BR4 6
        go_wp2_with fail
        have hkf : ∀ k, k ≠ w.heap.size + 1 → ((((((((wr).setCell ⟨w.heap.size + 1, 0, none⟩ (.int .u8 t.f0)).setCell ⟨w.heap.size + 1, 1, none⟩ (.string t.f1)).setCell ⟨w.heap.size + 1, 2, none⟩ (.bool t.f2.f0)).setCell ⟨w.heap.size + 1, 3, none⟩ (.string t.f2.f1)).setCell ⟨w.heap.size + 1, 4, none⟩ (.slice At t.f2.f2.length ct)).setCell ⟨w.heap.size + 1, 5, none⟩ (.int .i64 t.f3)).setCell ⟨w.heap.size + 1, 6, none⟩ (.slice none 0 0)).heap[k]? = wr.heap[k]? := fun k hk => by rw [Below.heap_setCell _ _ _ k hk, Below.heap_setCell _ _ _ k hk, Below.heap_setCell _ _ _ k hk, Below.heap_setCell _ _ _ k hk, Below.heap_setCell _ _ _ k hk, Below.heap_setCell _ _ _ k hk, Below.heap_setCell _ _ _ k hk]
        have hbf : Below w.heap.size w ((((((((wr).setCell ⟨w.heap.size + 1, 0, none⟩ (.int .u8 t.f0)).setCell ⟨w.heap.size + 1, 1, none⟩ (.string t.f1)).setCell ⟨w.heap.size + 1, 2, none⟩ (.bool t.f2.f0)).setCell ⟨w.heap.size + 1, 3, none⟩ (.string t.f2.f1)).setCell ⟨w.heap.size + 1, 4, none⟩ (.slice At t.f2.f2.length ct)).setCell ⟨w.heap.size + 1, 5, none⟩ (.int .i64 t.f3)).setCell ⟨w.heap.size + 1, 6, none⟩ (.slice none 0 0)) := (((((((hb4).setCell (by simp) _).setCell (by simp) _).setCell (by simp) _).setCell (by simp) _).setCell (by simp) _).setCell (by simp) _).setCell (by simp) _
        refine bodyPost_ret (results_cell_row rfl _ _ (w.heap.size + 1) 27 #[.int .u8 t.f0, .string t.f1, .bool t.f2.f0, .string t.f2.f1, .slice At t.f2.f2.length ct, .int .i64 t.f3, .slice none 0 0] (0, 0) _ rfl (set7l BR4) Try.underlying27 rfl (by kernel_rfl)) rfl ?_
        exact ⟨_, rfl, ⟨_, _, rfl, (hT4.step (fun k hk _ => hkf k (by omega))).mono (fun k hk => by omega), by rw [HL.out]; exact .nil _ _⟩, hbf⟩
    · have d0 : decide (0 < t.f4.length) = true := decide_eq_true h0
      have hmk := fun W => run_mkM W t.f4.length hlen
      have H0 := Aside0.mk h0
      have HLN := Aside0.mk hlen
      clear h0 hlen
      go_enter Try.func28, Try.ntmps28
      go_upto_region 3 with (go_at_call 99; (with_reducible refine (htw _ hb0).mono ?_); rintro e w3 ⟨v, rfl, hT, hb3⟩; obtain ⟨At, ct, hv3, hl3, hC3⟩ := hT.reads; subst hv3; have BX3 := blk_below BX hb3; have BR3 := blk_below BR hb3; obtain ⟨x0, x1, x2, x3, x4, x5, x6⟩ := box7 BX3; have f2 := blk_frozen BX3 2; have f3 := blk_frozen BX3 3; have f4 := blk_frozen BX3 4; have f6 := blk_frozen BX3 6)
      have hW4 : ∃ W4, (((w3.setCell ⟨w.heap.size, 2, none⟩ (.bool t.f2.f0)).setCell ⟨w.heap.size, 3, none⟩ (.string t.f2.f1)).setCell ⟨w.heap.size, 4, none⟩ (.slice At t.f2.f2.length ct)).setCell ⟨w.heap.size, 6, none⟩ (.slice none 0 0) = W4 := ⟨_, rfl⟩
      obtain ⟨W4, hW4⟩ := hW4
      have hs3 := blk_lt BR3
      have hs4 : W4.heap.size = w3.heap.size := by rw [← hW4]; simp
      have hk4 : ∀ k, k ≠ w.heap.size → W4.heap[k]? = w3.heap[k]? := fun k hk => by rw [← hW4, Below.heap_setCell _ _ _ k hk, Below.heap_setCell _ _ _ k hk, Below.heap_setCell _ _ _ k hk, Below.heap_setCell _ _ _ k hk]
      have BX4 : W4.heap[w.heap.size]? = some (.cells #[.int .u8 t.f0, .string t.f1, .bool t.f2.f0, .string t.f2.f1, .slice At t.f2.f2.length ct, .int .i64 t.f3, .slice none 0 0] 27 (0, 0)) := by
        rw [← hW4]
        exact blk_put (blk_put (blk_put (blk_put BX3 2 _ rfl) 3 _ rfl) 4 _ rfl) 6 _ rfl
      have BR4 : W4.heap[w.heap.size + 1]? = some (.cells #[.int .u8 0, .string ⟨#[]⟩, .bool false, .string ⟨#[]⟩, .slice none 0 0, .int .i64 0, .slice none 0 0] 27 (0, 0)) := (hk4 _ (by omega)).trans BR3
      have hb4 : Below w.heap.size w W4 := by rw [← hW4]; exact ((((below_step hb0 hb3).setCell (Nat.le_refl _) _).setCell (Nat.le_refl _) _).setCell (Nat.le_refl _) _).setCell (Nat.le_refl _) _
      have hT4 : WT W4 (fun k => w.heap.size + 2 ≤ k ∧ k < W4.heap.size) (.slice At t.f2.f2.length ct) t.f2.f2 := by
        have := hT.bound.step (w1 := W4) (fun k hk _ => hk4 k (by have := hk.1; simp at this; omega))
        exact this.mono (fun k hk => ⟨by have := hk.1; simp at this; omega, by omega⟩)
      obtain ⟨x0, x1, x2, x3, x4, x5, x6⟩ := box7 BX4
      have f6 := blk_frozen BX4 6
      rw [hW4]
      clear hW4 hk4 hT BX3 BR3 hC3 f2 f3 f4 hb3 hb0 BX BR htw
      have hgs : w.heap.size + 2 ≤ W4.heap.size := by omega
      clear hs4 hs3
      have x6' := pw_cell_below (below_one (w := W4) (.cells (madeCells #[.int .u8 0, .string ⟨#[]⟩, .bool false, .string ⟨#[]⟩, .slice none 0 0, .int .i64 0, .slice none 0 0] (t.f4.length * 7)) 27)) x6
      have f6' := blk_frozen (blk_alloc BX4 (.cells (madeCells #[.int .u8 0, .string ⟨#[]⟩, .bool false, .string ⟨#[]⟩, .slice none 0 0, .int .i64 0, .slice none 0 0] (t.f4.length * 7)) 27)) 6
      go_upto_region 5 with fail
      have hW5 : ∃ W5, (W4.alloc (.cells (madeCells #[.int .u8 0, .string ⟨#[]⟩, .bool false, .string ⟨#[]⟩, .slice none 0 0, .int .i64 0, .slice none 0 0] (t.f4.length * 7)) 27)).setCell ⟨w.heap.size, 6, none⟩ (.slice (some ⟨W4.heap.size, 0, none⟩) t.f4.length t.f4.length) = W5 := ⟨_, rfl⟩
      obtain ⟨W5, hW5⟩ := hW5
      have hS0 : TwAtM w t At ct W4.heap.size 0 W5 := by
        have ne1 : w.heap.size + 1 ≠ w.heap.size := by omega
        have ne2 : W4.heap.size ≠ w.heap.size := by omega
        rw [← hW5]
        refine ⟨blk_put (blk_alloc BX4 _) 6 _ rfl, blk_far (blk_alloc BR4 _) ne1 _, ((hT4.later (below_one _)).far _ _ (fun k hk => by show k ≠ w.heap.size; omega)), ⟨_, fun _ => undef, fun _ => undef, blk_far (blk_new W4 _) ne2 _, size_madeCells _ _, fun j hj => absurd hj (by omega)⟩, (below_step hb4 (below_one _)).setCell (Nat.le_refl _) _, hgs⟩
      try rw [hW5]
      clear hW5 BX4 BR4 hb4 hT4 x0 x1 x2 x3 x4 x5 x6 f6 x6' f6' hmk
      generalize W4.heap.size = gs at *
      go_wp2_with fail
      go_loopg [22] t.f4.length (fun gg v22 wr => ∃ kk : Nat, kk ≤ t.f4.length ∧ gg + kk = t.f4.length ∧ v22 = .int .i64 (kk : Int) ∧ Aside0 (TwAtM w t At ct gs kk wr))
      case atStart => exact ⟨0, by omega, by omega, rfl, ⟨hS0⟩⟩
      case round =>
        obtain ⟨kk, hk1, hk2, rfl, hTA⟩ := hrel
        clear hS0
        obtain ⟨c0, c1, c2', c3', c4, c5, c6⟩ := box7 hTA.out.b1
        have hb := hTA.out.hb
        by_cases hkk : kk < t.f4.length
        · have q0 : decide (kk < t.f4.length) = true := decide_eq_true hkk
          have hkz : (kk : Int) < (t.f4.length : Int) := by omega
          obtain ⟨ad, A2, c2, A3, c3, e1, hx0, hx1, hx2, hx3, hx4, hx5, hx6, l2, i2, l3, i3⟩ := at_T27 HX.out.1 (kk : Int) (by omega) hkz
          cases e1
          simp only [Int.toNat_natCast] at hx0 hx1 hx2 hx3 hx4 hx5 hx6
          replace hx0 := pw_cell_below hb hx0
          replace hx1 := pw_cell_below hb hx1
          replace hx2 := pw_cell_below hb hx2
          replace hx3 := pw_cell_below hb hx3
          replace hx4 := pw_cell_below hb hx4
          replace hx5 := pw_cell_below hb hx5
          replace hx6 := pw_cell_below hb hx6
          have hcall := fun W (hw : Below w.heap.size w W) => IH.out kk hkk A2 c2 A3 c3 W ⟨⟨Kd.C_below i2 hw, l2⟩, Kd.C_below i3 hw, l3⟩
          obtain ⟨cur, ts, ss, B3, hz, hel⟩ := hTA.out.b3
          have hgs := hTA.out.hg
          have hgl := blk_lt B3
          have hkm : (kk + 1) * 7 ≤ t.f4.length * 7 := Nat.mul_le_mul_right _ hkk
          obtain ⟨u0, hc0⟩ : ∃ z, cur[kk * 7]? = some z := ⟨_, Array.getElem?_eq_getElem (by omega)⟩
          obtain ⟨u1, hc1⟩ : ∃ z, cur[kk * 7 + 1]? = some z := ⟨_, Array.getElem?_eq_getElem (by omega)⟩
          obtain ⟨u2, hc2⟩ : ∃ z, cur[kk * 7 + 2]? = some z := ⟨_, Array.getElem?_eq_getElem (by omega)⟩
          obtain ⟨u3, hc3⟩ : ∃ z, cur[kk * 7 + 3]? = some z := ⟨_, Array.getElem?_eq_getElem (by omega)⟩
          obtain ⟨u4, hc4⟩ : ∃ z, cur[kk * 7 + 4]? = some z := ⟨_, Array.getElem?_eq_getElem (by omega)⟩
          obtain ⟨u5, hc5⟩ : ∃ z, cur[kk * 7 + 5]? = some z := ⟨_, Array.getElem?_eq_getElem (by omega)⟩
          obtain ⟨u6, hc6⟩ : ∃ z, cur[kk * 7 + 6]? = some z := ⟨_, Array.getElem?_eq_getElem (by omega)⟩
          have B3' := Aside0.mk B3
          clear hel hz hkm B3 l2 i2 l3 i3
          generalize hX : rd_T27 t.f4 (kk : Int) = x at *
          have HXX := Lib.hid hX
          clear hX
          go_wp2_with fail
          have hS1 : TwSM w wr x A2 c2 A3 c3 (.slice (some ⟨gs, 0, none⟩) t.f4.length t.f4.length) (wr.alloc (.cells #[.int .u8 x.f0, .string x.f1, .bool x.f2.f0, .string x.f2.f1, .slice A2 x.f2.f2.length c2, .int .i64 x.f3, .slice A3 x.f4.length c3] 27)).drew := by
            obtain ⟨n0, n1, n2, n3, n4, n5, n6⟩ := box7 (blk_new wr (.cells #[.int .u8 x.f0, .string x.f1, .bool x.f2.f0, .string x.f2.f1, .slice A2 x.f2.f2.length c2, .int .i64 x.f3, .slice A3 x.f4.length c3] 27))
            exact ⟨n0, n1, n2, n3, n4, n5, n6, pw_cell_below (below_one _) c6, below_drew1 (below_step hb (below_one _))⟩
          go_region_held3 (fun W => TwSM w wr x A2 c2 A3 c3 (.slice (some ⟨gs, 0, none⟩) t.f4.length t.f4.length) W)
            (first | (with_reducible exact hS1) | (with_reducible assumption) | exact TwSM.put hgl hgs (by with_reducible assumption) _ _ _ _ _ _ _)
            (first | (go_at_call 28; (with_reducible refine (hcall _ hS1.2.2.2.2.2.2.2.2).mono ?_); rintro e w1 ⟨r, rfl, hO, hb1⟩; obtain ⟨vt, vs, hr, hT1, hM1⟩ := hO; subst hr; obtain ⟨A4, c4', hv4, _⟩ := hT1.reads; subst hv4; obtain ⟨A5, c5', hv5, _⟩ := hM1.reads; subst hv5; have hN := TwSM.step hS1 hb1; have hbN := below_step (below_drew1 (below_one (w := wr) (.cells #[.int .u8 x.f0, .string x.f1, .bool x.f2.f0, .string x.f2.f1, .slice A2 x.f2.f2.length c2, .int .i64 x.f3, .slice A3 x.f4.length c3] 27))) hb1; have W3 := blk_below B3'.out hbN; have s0 := (blk_cell W3 (kk * 7)).trans hc0; have r0 := blk_frozen W3 (kk * 7); have s1 := (blk_cell W3 (kk * 7 + 1)).trans hc1; have r1 := blk_frozen W3 (kk * 7 + 1); have s2 := (blk_cell W3 (kk * 7 + 2)).trans hc2; have r2 := blk_frozen W3 (kk * 7 + 2); have s3 := (blk_cell W3 (kk * 7 + 3)).trans hc3; have r3 := blk_frozen W3 (kk * 7 + 3); have s4 := (blk_cell W3 (kk * 7 + 4)).trans hc4; have r4 := blk_frozen W3 (kk * 7 + 4); have s5 := (blk_cell W3 (kk * 7 + 5)).trans hc5; have r5 := blk_frozen W3 (kk * 7 + 5); have s6 := (blk_cell W3 (kk * 7 + 6)).trans hc6; have r6 := blk_frozen W3 (kk * 7 + 6)))
          have HR := TwAtM.next hTA.out HXX.out hkk (B := (wr.alloc (.cells #[.int .u8 x.f0, .string x.f1, .bool x.f2.f0, .string x.f2.f1, .slice A2 x.f2.f2.length c2, .int .i64 x.f3, .slice A3 x.f4.length c3] 27)).drew.heap.size) (by simp; omega) hT1 hM1 hbN
          clear hS1 hcall W3 s0 s1 s2 s3 s4 s5 s6 r0 r1 r2 r3 r4 r5 r6 hc0 hc1 hc2 hc3 hc4 hc5 hc6 hx0 hx1 hx2 hx3 hx4 hx5 hx6 c0 c1 c2' c3' c4 c5 c6 hT1 hM1 hN hbN B3'
          go_wp2_with fail
          go_roundg (t.f4.length - kk - 1)
          case measure => omega
          case rel => exact ⟨kk + 1, by omega, by omega, by first | (simp; done) | (rw [w64s (by have := HLN.out; omega)]) | (simp; exact w64s (by have := HLN.out; omega)) | (simp; exact (w64s (by have := HLN.out; omega)).symm), ⟨HR⟩⟩
        · have q0 : decide (kk < t.f4.length) = false := decide_eq_false hkk
          obtain rfl : kk = t.f4.length := by omega
          obtain ⟨cur, ts, ss, B3, hz, hel⟩ := hTA.out.b3
          have B1 := hTA.out.b1
          have B2 := hTA.out.b2
          have hbt := hTA.out.bt
          have hgs := hTA.out.hg
          obtain ⟨e0, e1, e2, e3, e4, e5, e6⟩ := box7 B2
          have g0 := blk_frozen B2 0
          have g1 := blk_frozen B2 1
          have g2 := blk_frozen B2 2
          have g3 := blk_frozen B2 3
          have g4 := blk_frozen B2 4
          have g5 := blk_frozen B2 5
          have g6 := blk_frozen B2 6
          have HEL := Aside0.mk hel
          have HZ := Aside0.mk hz
          have HB3 := Aside0.mk B3
          clear hkk hel hz B3
          go_wp2_with fail
          have hkf : ∀ k, k ≠ w.heap.size + 1 → ((((((((wr).setCell ⟨w.heap.size + 1, 0, none⟩ (.int .u8 t.f0)).setCell ⟨w.heap.size + 1, 1, none⟩ (.string t.f1)).setCell ⟨w.heap.size + 1, 2, none⟩ (.bool t.f2.f0)).setCell ⟨w.heap.size + 1, 3, none⟩ (.string t.f2.f1)).setCell ⟨w.heap.size + 1, 4, none⟩ (.slice At t.f2.f2.length ct)).setCell ⟨w.heap.size + 1, 5, none⟩ (.int .i64 t.f3)).setCell ⟨w.heap.size + 1, 6, none⟩ (.slice (some ⟨gs, 0, none⟩) t.f4.length t.f4.length)).heap[k]? = wr.heap[k]? := fun k hk => by rw [Below.heap_setCell _ _ _ k hk, Below.heap_setCell _ _ _ k hk, Below.heap_setCell _ _ _ k hk, Below.heap_setCell _ _ _ k hk, Below.heap_setCell _ _ _ k hk, Below.heap_setCell _ _ _ k hk, Below.heap_setCell _ _ _ k hk]
          have hbf : Below w.heap.size w ((((((((wr).setCell ⟨w.heap.size + 1, 0, none⟩ (.int .u8 t.f0)).setCell ⟨w.heap.size + 1, 1, none⟩ (.string t.f1)).setCell ⟨w.heap.size + 1, 2, none⟩ (.bool t.f2.f0)).setCell ⟨w.heap.size + 1, 3, none⟩ (.string t.f2.f1)).setCell ⟨w.heap.size + 1, 4, none⟩ (.slice At t.f2.f2.length ct)).setCell ⟨w.heap.size + 1, 5, none⟩ (.int .i64 t.f3)).setCell ⟨w.heap.size + 1, 6, none⟩ (.slice (some ⟨gs, 0, none⟩) t.f4.length t.f4.length)) := (((((((hb).setCell (by simp) _).setCell (by simp) _).setCell (by simp) _).setCell (by simp) _).setCell (by simp) _).setCell (by simp) _).setCell (by simp) _
          refine bodyPost_ret (results_cell_row rfl _ _ (w.heap.size + 1) 27 #[.int .u8 t.f0, .string t.f1, .bool t.f2.f0, .string t.f2.f1, .slice At t.f2.f2.length ct, .int .i64 t.f3, .slice (some ⟨gs, 0, none⟩) t.f4.length t.f4.length] (0, 0) _ rfl (set7l B2) Try.underlying27 rfl (by kernel_rfl)) rfl ?_
          refine ⟨_, rfl, ⟨_, _, rfl, (hbt.step (fun k hk _ => hkf k (by omega))).mono (fun k hk => by omega), .row gs t.f4.length cur t.f4 ts ss H0.out (by omega) ((hkf gs (by omega)).trans HB3.out) (Nat.le_refl _) (by have := HLN.out; omega) HZ.out (fun j hj => (HEL.out j hj).1) (fun j hj => ((HEL.out j hj).2.1.step (fun k hk _ => hkf k (by omega))).mono (fun k hk => by omega)) (fun j hj => ((HEL.out j hj).2.2.step (fun k hk _ => hkf k (by omega))).mono (fun k hk => by omega))⟩, hbf⟩
end Go.Proofs.Ytecplbgdalchdaa.Q
