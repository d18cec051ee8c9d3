/- Proved here: parts of the proof of a given statement (HRowSignatureTells): contracts of the functions that it reaches, what they answer, and in the last text the statement itself. Conditions: those that each theorem names. -/
import Derived.Test.YtecplbgdalchdaaZSTX9
import Derived.Test.YtecplbgdalchdaaZSTX7
import Derived.Deep.CutRange
import Derived.Deep.CutBlock
/- Proved here: the contract of signature.Twin. Conditions: those that each theorem names. -/
namespace Go.Proofs.Ytecplbgdalchdaa.Q
open Go.RowKit Go.Shelf Go.Proofs.YtecplbgdalchdaaW.PrintWords Go.Proofs.YtecplbgdalchdaaW.PrintMore
set_option linter.unusedVariables false
set_option linter.unusedSimpArgs false
attribute [local go_sem] Oper.semAt_some

theorem N_ownTO {w : World} {base : Nat} {ok : Nat → Prop} {v : Value} {l : List S106} (h : Kd.N k106 106 w base ok v l) : Kd.N k106 106 w base (fun k => some k = v.ownBlock) v l := by
  obtain ⟨_, rows, hl, hR, hf⟩ := h
  refine ⟨fun k hk => hk.symm, rows, hl, hR, fun j x c hx hc W' hW => ?_⟩
  have := k106_open (Kd.FK_now (hf j x c hx hc))
  rw [this]
  exact k106_mk W' x
abbrev okTw (n : Nat) (w : World) (v0 : Value) (k : Nat) : Prop := (k < n ∨ w.heap.size + 2 ≤ k) ∧ some k ≠ v0.ownBlock
abbrev TwS (n : Nat) (w : World) (v0 v1 : Value) (l0 : List S106) (l1 : List S108) (W : World) : Prop :=
  W.heap[w.heap.size]? = some (.cells #[v0, v1] 94) ∧ W.heap[w.heap.size + 1]? = some (.cells #[.slice none 0 0, .slice none 0 0] 94) ∧ Kd.N k106 106 W (w.heap.size + 2) (fun k => some k = v0.ownBlock) v0 l0 ∧ Kd.N k108 108 W (w.heap.size + 2) (okTw n w v0) v1 l1 ∧ Below w.heap.size w W
section
variable {n : Nat} {w W W1 : World} {v0 v1 : Value} {l0 : List S106} {l1 : List S108}
theorem TwS.step (h : TwS n w v0 v1 l0 l1 W) (hb : Below W.heap.size W W1) : TwS n w v0 v1 l0 l1 W1 := by
  obtain ⟨h1, h2, h3, h4, h5⟩ := h
  exact ⟨blk_below h1 hb, blk_below h2 hb, Kd.N_below h3 hb, Kd.N_below h4 hb, below_step h5 hb⟩
theorem set_get {α : Type} (l : List α) (z : α) (k : Nat) (hk : k < l.length) : l.set k (l.getD k z) = l := by
  rw [List.getD_eq_getElem?_getD, List.getElem?_eq_getElem hk]
  simp
theorem TwS.start {a b : Value} {b0 b1 : Nat} {ok0 ok1 : Nat → Prop} (hBx : W.heap[w.heap.size]? = some (.cells #[a, b] 94)) (hBr : W.heap[w.heap.size + 1]? = some (.cells #[.slice none 0 0, .slice none 0 0] 94)) (hN0 : Kd.N k106 106 W b0 ok0 v0 l0) (hN1 : Kd.N k108 108 W b1 ok1 v1 l1) (hb : Below w.heap.size w W)
    (h0 : w.heap.size + 2 ≤ b0) (h1 : w.heap.size + 2 ≤ b1) (hok : ∀ k, ok1 k → okTw n w v0 k) (hn : n ≤ w.heap.size) : TwS n w v0 v1 l0 l1 ((W.setCell ⟨w.heap.size, 0, none⟩ v0).setCell ⟨w.heap.size, 1, none⟩ v1) := by
  have hN0' := N_ownTO (Kd.N_lower hN0 h0)
  have hN1' := Kd.N_mono (Kd.N_lower hN1 h1) hok
  have hne : ∀ k, some k = v0.ownBlock → k ≠ w.heap.size := fun k hk he => by have := Kd.N_base hN0' k hk.symm; omega
  have hne1 : ∀ k, okTw n w v0 k → k ≠ w.heap.size := fun k hk he => by have := hk.1; omega
  refine ⟨blk_put (cs := #[v0, b]) (blk_put (cs := #[a, b]) hBx 0 _ rfl) 1 _ rfl, ?_, Kd.N_far (Kd.N_far hN0' hne _) hne _, Kd.N_far (Kd.N_far hN1' hne1 _) hne1 _, below_set (below_set hb (by omega)) (by omega)⟩
  rw [Below.heap_setCell _ _ _ _ (by show w.heap.size + 1 ≠ w.heap.size; omega), Below.heap_setCell _ _ _ _ (by show w.heap.size + 1 ≠ w.heap.size; omega)]
  exact hBr
theorem set2k' {w : World} {g : Nat} {t : TypeId} {a b a' b' : Value} (h : w.heap[g]? = some (.cells #[a, b] t (0, 0))) :
    ((w.setCell ⟨g, 0, none⟩ a').setCell ⟨g, 1, none⟩ b').heap[g]? = some (.cells #[a', b'] t (0, 0)) :=
  blk_put (cs := #[a', b]) (blk_put (cs := #[a, b]) h 0 _ rfl) 1 _ rfl
/-- A signature of the call's own. -/
def SigN (n : Nat) (w : World) (v0 v1 : Value) (l0 : List S106) (l1 : List S108) (W : World) : Prop :=
  Kd.N k106 106 W w.heap.size (fun k => some k = v0.ownBlock) v0 l0 ∧ Kd.N k108 108 W w.heap.size (okTw n w v0) v1 l1 ∧ Below w.heap.size w W
theorem TwS.fin (h : TwS n w v0 v1 l0 l1 W) (hn : n ≤ w.heap.size) : SigN n w v0 v1 l0 l1 ((W.setCell ⟨w.heap.size + 1, 0, none⟩ v0).setCell ⟨w.heap.size + 1, 1, none⟩ v1) := by
  obtain ⟨h1, h2, h3, h4, h5⟩ := h
  have hne : ∀ k, some k = v0.ownBlock → k ≠ w.heap.size + 1 := fun k hk he => by have := Kd.N_base h3 k hk.symm; omega
  have hne1 : ∀ k, okTw n w v0 k → k ≠ w.heap.size + 1 := fun k hk he => by have := hk.1; omega
  exact ⟨Kd.N_lower (Kd.N_far (Kd.N_far h3 hne _) hne _) (by omega), Kd.N_lower (Kd.N_far (Kd.N_far h4 hne1 _) hne1 _) (by omega), below_set (below_set h5 (by omega)) (by omega)⟩
/-- The types of element k, written anew. -/
theorem TwS.put {g cap nn : Nat} {k : Nat} {A : Option Addr} {c : Nat} {okp : Nat → Prop} (h : TwS n w v0 (.slice (some ⟨g, 0, none⟩) nn cap) l0 l1 W) (hk : k < nn) (hg : w.heap.size + 2 ≤ g) (hokp : ∀ k, okp k → okTw n w v0 k ∧ k ≠ g)
    (hF : Kd.F k24 W okp A (rd_T108 l1 (k : Int)).f1.f2.length (rd_T108 l1 (k : Int)).f1.f2) (hl : (rd_T108 l1 (k : Int)).f1.f2.length ≤ c) :
    TwS n w v0 (.slice (some ⟨g, 0, none⟩) nn cap) l0 l1 (((W.setCell ⟨g, k * 4 + 1, none⟩ (.bool (rd_T108 l1 (k : Int)).f1.f0)).setCell ⟨g, k * 4 + 1 + 1, none⟩ (.string (rd_T108 l1 (k : Int)).f1.f1)).setCell ⟨g, k * 4 + 1 + 1 + 1, none⟩ (.slice A (rd_T108 l1 (k : Int)).f1.f2.length c)) := by
  obtain ⟨h1, h2, h3, h4, h5⟩ := h
  obtain ⟨cs, hcl, hK, hcc, hfr⟩ := Kd.N_elem h4 z108 (k : Int) (by omega) (by omega)
  obtain ⟨A3, c3, rfl, _, _⟩ := k108_open (Kd.FK_now hK)
  have hs := Kd.N_seg (seg := [.bool (rd_T108 l1 (k : Int)).f1.f0, .string (rd_T108 l1 (k : Int)).f1.f1, .slice A (rd_T108 l1 (k : Int)).f1.f2.length c]) (j := 1) (okp := okp) (x' := rd_T108 l1 (k : Int)) h4 (k : Int) (by omega) (by omega) hcl hcc (Nat.le_refl 4) (k108_mkF W okp (rd_T108 l1 (k : Int)) hl hF) (fun k hk => ⟨(hokp k hk).1, (hokp k hk).2⟩)
  have hnn : nn = l1.length := (Kd.N_reads' h4).1
  obtain ⟨hN, hg1⟩ := hs
  rw [Int.toNat_natCast] at hN hg1
  rw [show l1.set k (rd_T108 l1 (k : Int)) = l1 from set_get l1 z108 k (by omega)] at hN
  have e : W.setCells g (k * 4 + 1) [.bool (rd_T108 l1 (k : Int)).f1.f0, .string (rd_T108 l1 (k : Int)).f1.f1, .slice A (rd_T108 l1 (k : Int)).f1.f2.length c] = (((W.setCell ⟨g, k * 4 + 1, none⟩ (.bool (rd_T108 l1 (k : Int)).f1.f0)).setCell ⟨g, k * 4 + 1 + 1, none⟩ (.string (rd_T108 l1 (k : Int)).f1.f1)).setCell ⟨g, k * 4 + 1 + 1 + 1, none⟩ (.slice A (rd_T108 l1 (k : Int)).f1.f2.length c)) := rfl
  have e2 : k108.sz = 4 := rfl
  rw [e2, e] at hN hg1
  obtain ⟨cells, hty⟩ := Kd.N_typed h4 g (by simp [Value.ownBlock])
  refine ⟨(hg1.block _ (Array.getElem?_eq_some_iff.1 h1).1 (by simp; omega)).trans h1, (hg1.block _ (Array.getElem?_eq_some_iff.1 h2).1 (by simp; omega)).trans h2, Kd.N_grown h3 hg1 (fun k hk he => ?_), hN, ?_⟩
  · exact Kd.N_ne h3 hty (by decide) (he.symm.trans hk)
  · exact h5.trans ⟨hg1.os, hg1.tape, hg1.output, hg1.size, fun k hk => hg1.block k (Nat.lt_of_lt_of_le hk h5.size) (by simp; omega)⟩
end
set_option maxHeartbeats 2000000 in
set_option maxRecDepth 100000 in
theorem sigtwin_calls (A0 : Option Addr) (c0 : Nat) (l0 : List S106) (A1 : Option Addr) (c1 : Nat) (l1 : List S108) (v w : World) (hv : Below v.heap.size v w) (hr0 : Kd.C k106 v A0 l0.length l0) (hc0 : l0.length ≤ c0) (hr1 : Kd.C k108 v A1 l1.length l1) (hc1 : l1.length ≤ c1)
    (z0 : l0.length ≤ 100000) (z1 : l1.length ≤ 100000) (hz : ∀ x, x ∈ l1 → szL x.f1.f2 < 5864062014805) :
    Calls Try.prog 75 #[.agg #[.slice A0 l0.length c0, .slice A1 l1.length c1]] w fun e w' => ∃ v0 v1, e = .returned (.agg #[v0, v1]) ∧ SigN v.heap.size w v0 v1 l0 l1 w' := by
  have hb0 := (two_new w (.cells #[.slice A0 l0.length c0, .slice A1 l1.length c1] 94) (.cells #[.slice none 0 0, .slice none 0 0] 94)).1
  have BX := (two_new w (.cells #[.slice A0 l0.length c0, .slice A1 l1.length c1] 94) (.cells #[.slice none 0 0, .slice none 0 0] 94)).2.1
  have BR := (two_new w (.cells #[.slice A0 l0.length c0, .slice A1 l1.length c1] 94) (.cells #[.slice none 0 0, .slice none 0 0] 94)).2.2
  obtain ⟨x0, x1, x2, x3⟩ := box2k BX
  have hc_0 := fun W (hW : Below w.heap.size w W) => clone_TO A0 c0 l0 v W (below_step hv hW) hr0 z0
  have hc_1 := fun W (hW : Below w.heap.size w W) => clone_CO A1 c1 l1 v W (below_step hv hW) hr1 z1
  clear hr0 hr1
  go_enter Try.func75, Try.ntmps75
  go_upto_region 1 with fail
  have hs0 : ((w.alloc (.cells #[.slice A0 l0.length c0, .slice A1 l1.length c1] 94)).alloc (.cells #[.slice none 0 0, .slice none 0 0] 94)).heap.size = w.heap.size + 2 := (Array.size_push _).trans (congrArg (· + 1) (Array.size_push _))
  generalize ((w.alloc (.cells #[.slice A0 l0.length c0, .slice A1 l1.length c1] 94)).alloc (.cells #[.slice none 0 0, .slice none 0 0] 94)) = W0 at *
  go_cut [3] from 4 to 31 (fun v3 wc => Aside0 (∃ v0 v1, TwS v.heap.size w v0 v1 l0 l1 wc))
  case first =>
    have hbd := below_step hb0 (below_drew1 (Below.refl W0.heap.size W0))
    have BXd := blk_below BX (below_drew1 (Below.refl W0.heap.size W0))
    have BRd := blk_below BR (below_drew1 (Below.refl W0.heap.size W0))
    go_region_law (first
      | (go_simp; go_at_call 147; (with_reducible refine (hc_1 W1 (below_step hbd hcA)).mono ?_); rintro e W2 ⟨u1, rfl, hN1, hcB⟩; obtain ⟨A9, c9, hu1⟩ := Kd.N_slice hN1; subst hu1; have hBx := blk_below (blk_below BXd hcA) hcB; obtain ⟨y0, y1, y2, y3⟩ := box2k hBx)
      | (go_simp; go_at_call 146; (with_reducible refine (hc_0 W0.drew hbd).mono ?_); rintro e W1 ⟨u0, rfl, hN0, hcA⟩; obtain ⟨A8, c8, hu0⟩ := Kd.N_slice hN0; subst hu0; obtain ⟨ya, yb, yc, yd⟩ := box2k (blk_below BXd hcA)))
    all_goals go_wp2
    all_goals go_meet
    all_goals (case rel => exact ⟨⟨_, _, TwS.start hBx (blk_below (blk_below BRd hcA) hcB) (Kd.N_below hN0 hcB) hN1 (below_step (below_step hbd hcA) hcB) (by simp at *; omega) (by have := hcA.size; simp at *; omega) (fun k hk => ⟨by have := hcA.size; simp at *; omega, fun he => by have h1 := Kd.N_lt hN0 k he.symm; have h2 := Kd.N_base hN0 k he.symm; have h3 := hv.size; simp at *; omega⟩) hv.size⟩⟩)
  case rest =>
    obtain ⟨v0, v1, hT⟩ := hcut.out
    obtain ⟨A9, c9, hv1⟩ := Kd.N_slice hT.2.2.2.1
    subst hv1
    obtain ⟨A8, c8, hv0⟩ := Kd.N_slice hT.2.2.1
    subst hv0
    obtain ⟨y0, y1, y2, y3⟩ := box2k hT.1
    clear hcut hc_0 hc_1 BX BR x0 x1 x2 x3
    go_wp2_with fail
    clear y0 y1 y2 y3
    replace hT := Aside0.mk hT
    go_loopg [15] l1.length (fun gg v15 wr => ∃ kk : Nat, kk ≤ l1.length ∧ gg + kk = l1.length ∧ v15 = .int .i64 (kk : Int) ∧ Aside0 (TwS v.heap.size w (.slice A8 l0.length c8) (.slice A9 l1.length c9) l0 l1 wr))
    case atStart => exact ⟨0, by omega, by omega, rfl, hT⟩
    case round =>
      obtain ⟨kk, hk1, hk2, rfl, hT2⟩ := hrel
      clear hT
      have hT := hT2.out
      clear hT2
      by_cases hkk : kk < l1.length
      · have q0 : decide (kk < l1.length) = true := decide_eq_true hkk
        go_upto_block 1 with fail
        go_cut [15] from 15 to 30 (fun v15 wc => v15 = .int .i64 (kk : Int) ∧ Aside0 (TwS v.heap.size w (.slice A8 l0.length c8) (.slice A9 l1.length c9) l0 l1 wc))
        case first =>
          obtain ⟨g, cap, he, hg1, hg2, _⟩ := Kd.N_form hT.2.2.2.1 (by omega)
          injection he with he1 he2 he3
          subst he1 he3
          obtain ⟨cs, hcl, hK, hcc, hfr⟩ := Kd.N_elem hT.2.2.2.1 z108 (kk : Int) (by omega) (by omega)
          obtain ⟨A3, c3, hcs, hl3, hC3⟩ := k108_open (Kd.FK_now hK)
          subst hcs
          have hmem : rd_T108 l1 (kk : Int) ∈ l1 := by
            have : rd_T108 l1 (kk : Int) = l1[kk] := by
              unfold rd_T108
              rw [Int.toNat_natCast, List.getD_eq_getElem?_getD, List.getElem?_eq_getElem hkk]
              rfl
            rw [this]
            exact List.getElem_mem hkk
          have hzz := hz _ hmem
          rw [show (l1.getD (kk : Int).toNat z108) = rd_T108 l1 (kk : Int) from rfl] at *
          have htw := fun W (hW : Below wr.heap.size wr W) => types_Twin.calls (rd_T108 l1 (kk : Int)).f1.f0 (rd_T108 l1 (kk : Int)).f1.f1 A3 c3 (rd_T108 l1 (kk : Int)).f1.f2 _ _ _ W (Kd.C_below hC3 hW) hl3 (by unfold types_Twin.f; rw [if_pos hzz])
          have e1 := hcc 1 _ rfl
          have e2 := hcc 2 _ rfl
          have e3 := hcc 3 _ rfl
          have f1 := hfr 1
          have f2 := hfr 2
          have f3 := hfr 3
          simp only [Int.toNat_natCast, show k108.sz = 4 from rfl] at e1 e2 e3 f1 f2 f3
          obtain ⟨y0, y1, y2, y3⟩ := box2k hT.1
          go_upto_region 5 with fail
          have hbd := below_drew1 (Below.refl wr.heap.size wr)
          have hTd := hT.step hbd
          go_region_law (go_simp; go_at_call 99; (with_reducible refine (htw wr.drew hbd).mono ?_); rintro e W2 ⟨v2, rfl, hV, hcT⟩; obtain ⟨A7, c7, rfl, hl7, hF7⟩ := hV; have hT2 := hTd.step hcT; have e1' := pw_cell_below (below_step hbd hcT) e1; have e2' := pw_cell_below (below_step hbd hcT) e2; have e3' := pw_cell_below (below_step hbd hcT) e3; obtain ⟨y0', y1', y2', y3'⟩ := box2k hT2.1; have fr := Kd.N_elem hT2.2.2.2.1 z108 (kk : Int) (by omega) (by omega); obtain ⟨cs2, _, _, _, hfr2⟩ := fr; have f1' := hfr2 1; have f2' := hfr2 2; have f3' := hfr2 3; simp only [Int.toNat_natCast, show k108.sz = 4 from rfl] at f1' f2' f3')
          all_goals go_wp2
          all_goals go_meet
          all_goals (case rel => exact ⟨rfl, ⟨TwS.put hT2 hkk hg1 (fun k hk => ⟨⟨.inr (by simp at hk; omega), fun he => by have h1 := Kd.N_lt hT.2.2.1 k he.symm; simp at hk; omega⟩, by simp at hk; omega⟩) hF7 hl7⟩⟩)
        case rest =>
          obtain ⟨rfl, hT3⟩ := hcut
          go_wp2_with fail
          go_roundg (l1.length - kk - 1)
          case measure => omega
          case rel => exact ⟨kk + 1, by omega, by omega, by first | (simp; done) | (simp; exact w64 (by omega) (by omega)), hT3⟩
      · have q0 : decide (kk < l1.length) = false := decide_eq_false hkk
        obtain ⟨y0, y1, y2, y3⟩ := box2k hT.1
        obtain ⟨ya, yb, yc, yd⟩ := box2k hT.2.1
        have hfin := TwS.fin hT hv.size
        go_wp2_with fail
        refine bodyPost_ret (results_cell_row rfl _ _ (w.heap.size + 1) 94 #[.slice A8 l0.length c8, .slice A9 l1.length c9] (0, 0) _ rfl (set2k' hT.2.1) Try.underlying94 rfl (by kernel_rfl)) rfl ?_
        exact ⟨_, _, rfl, hfin⟩
end Go.Proofs.Ytecplbgdalchdaa.Q
