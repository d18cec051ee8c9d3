/- Proved here: the contract of types.Twin. Conditions: those that each theorem names. -/
import Derived.Test.YtgnklkmifcmlhaaHTree
import Derived.Deep.RegionHeld3
namespace Go.Proofs.Ytgnklkmifcmlhaa.Q
open Go.RowKit Go.Shelf Go.Proofs.YtgnklkmifcmlhaaW.PrintWords Go.Proofs.YtgnklkmifcmlhaaW.PrintMore
set_option linter.unusedVariables false
set_option linter.unusedSimpArgs false
attribute [local go_sem] Oper.semAt_some

theorem run_mkT (W : World) (n : Nat) (hn : n ≤ 5864062014805) : (Instr.makeSlice 23 (.int .i64 (n : Int)) (.int .i64 (n : Int))).run Try.prog W = .ok (.slice (some ⟨W.heap.size, 0, none⟩) n n) (W.alloc (.cells (madeCells #[.bool false, .string ⟨#[]⟩, .slice none 0 0] (n * 3)) 25)) := by
  obtain ⟨i0, hi, hz0, hz1, hz2⟩ := info_parts info25
  have h := run_make (P := Try.prog) W 23 25 i0 _ Try.underlying23 hi hz0 .i64 .i64 (n : Int) (n : Int) (by omega) (by omega) (by rw [hz2]; omega) (by omega)
  rw [hz1] at h
  exact h

/-- What the loop of Twin has built. -/
structure TwinAt (w : World) (t : S25) (kk : Nat) (W : World) : Prop where
  b1 : W.heap[w.heap.size]? = some (.cells #[.bool t.f0, .string t.f1, .slice (some ⟨w.heap.size + 2, 0, none⟩) t.f2.length t.f2.length] 25 (0, 0))
  b2 : W.heap[w.heap.size + 1]? = some (.cells #[.bool false, .string ⟨#[]⟩, .slice none 0 0] 25 (0, 0))
  b3 : ∃ (cur : Array Value) (vs : Nat → Value), W.heap[w.heap.size + 2]? = some (.cells cur 25 (0, 0)) ∧ cur.size = t.f2.length * 3 ∧
    ∀ j, j < kk → cur[j * 3]? = some (.bool (rd_T25 t.f2 (j : Int)).f0) ∧ cur[j * 3 + 1]? = some (.string (rd_T25 t.f2 (j : Int)).f1) ∧ cur[j * 3 + 2]? = some (vs j) ∧ WT W (fun k => w.heap.size + 3 ≤ k) (vs j) (rd_T25 t.f2 (j : Int)).f2
  hb : Below w.heap.size w W

/-- The cells that the statement of the loop loads. -/
abbrev TwinS (w wr : World) (x : S25) (A2 : Option Addr) (c2 : Nat) (u : Value) (W : World) : Prop :=
  W.cell? ⟨wr.heap.size, 0, none⟩ = some (.bool x.f0) ∧ W.cell? ⟨wr.heap.size, 1, none⟩ = some (.string x.f1) ∧ W.cell? ⟨wr.heap.size, 2, none⟩ = some (.slice A2 x.f2.length c2) ∧ W.cell? ⟨w.heap.size, 2, none⟩ = some u ∧ Below w.heap.size w W
theorem TwinS.step {w wr W W' : World} {x : S25} {A2 : Option Addr} {c2 : Nat} {u : Value} (h : TwinS w wr x A2 c2 u W) (hb : Below W.heap.size W W') : TwinS w wr x A2 c2 u W' :=
  ⟨pw_cell_below hb h.1, pw_cell_below hb h.2.1, pw_cell_below hb h.2.2.1, pw_cell_below hb h.2.2.2.1, below_step h.2.2.2.2 hb⟩
theorem cell_away {W : World} {p q : Addr} {u v : Value} (h : W.cell? p = some v) (hne : p.block ≠ q.block) : (W.setCell q u).cell? p = some v := by
  unfold World.cell? at h ⊢
  rw [Below.heap_setCell W q u p.block hne]
  exact h
theorem TwinS.put {w wr W : World} {x : S25} {A2 : Option Addr} {c2 : Nat} {u : Value} (hlt : w.heap.size + 2 < wr.heap.size) (h : TwinS w wr x A2 c2 u W) (i j k : Nat) (a b c : Value) :
    TwinS w wr x A2 c2 u (((W.setCell ⟨w.heap.size + 2, i, none⟩ a).setCell ⟨w.heap.size + 2, j, none⟩ b).setCell ⟨w.heap.size + 2, k, none⟩ c) := by
  have n1 : wr.heap.size ≠ w.heap.size + 2 := by omega
  have n2 : w.heap.size ≠ w.heap.size + 2 := by omega
  exact ⟨cell_away (cell_away (cell_away h.1 n1) n1) n1, cell_away (cell_away (cell_away h.2.1 n1) n1) n1, cell_away (cell_away (cell_away h.2.2.1 n1) n1) n1, cell_away (cell_away (cell_away h.2.2.2.1 n2) n2) n2, ((h.2.2.2.2.setCell (by simp) _).setCell (by simp) _).setCell (by simp) _⟩
theorem TwinAt.next {w wr w1 : World} {t x : S25} {kk : Nat} {cur : Array Value} {vs : Nat → Value} {v : Value} (hX : rd_T25 t.f2 (kk : Int) = x)
    (b1 : wr.heap[w.heap.size]? = some (.cells #[.bool t.f0, .string t.f1, .slice (some ⟨w.heap.size + 2, 0, none⟩) t.f2.length t.f2.length] 25 (0, 0)))
    (b2 : wr.heap[w.heap.size + 1]? = some (.cells #[.bool false, .string ⟨#[]⟩, .slice none 0 0] 25 (0, 0)))
    (b3 : wr.heap[w.heap.size + 2]? = some (.cells cur 25 (0, 0))) (hz : cur.size = t.f2.length * 3)
    (hel : ∀ j, j < kk → cur[j * 3]? = some (.bool (rd_T25 t.f2 (j : Int)).f0) ∧ cur[j * 3 + 1]? = some (.string (rd_T25 t.f2 (j : Int)).f1) ∧ cur[j * 3 + 2]? = some (vs j) ∧ WT wr (fun k => w.heap.size + 3 ≤ k) (vs j) (rd_T25 t.f2 (j : Int)).f2)
    (hb : Below w.heap.size w wr) (hkk : kk < t.f2.length) (hWT : WT w1 (fun k => wr.heap.size ≤ k) v x.f2) (h1 : Below wr.heap.size wr w1) :
    TwinAt w t (kk + 1) (((w1.setCell ⟨w.heap.size + 2, kk * 3, none⟩ (.bool x.f0)).setCell ⟨w.heap.size + 2, kk * 3 + 1, none⟩ (.string x.f1)).setCell ⟨w.heap.size + 2, kk * 3 + 2, none⟩ v) := by
  have hs := blk_lt b3
  have W3 := blk_below b3 h1
  have P := blk_put (blk_put (blk_put W3 (kk * 3) (.bool x.f0) rfl) (kk * 3 + 1) (.string x.f1) rfl) (kk * 3 + 2) v rfl
  refine ⟨blk_far (blk_far (blk_far (blk_below b1 h1) (by simp) _) (by simp) _) (by simp) _, blk_far (blk_far (blk_far (blk_below b2 h1) (by simp) _) (by simp) _) (by simp) _,
    ⟨_, fun j => if j = kk then v else vs j, P, by simp [hz], fun j hj => ?_⟩, (((below_step hb h1).setCell (by simp) _).setCell (by simp) _).setCell (by simp) _⟩
  by_cases hjk : j = kk
  · subst hjk
    simp only [if_true]
    rw [hX]
    refine ⟨?_, ?_, ?_, ?_⟩
    · rw [Array.getElem?_setIfInBounds_ne (by omega), Array.getElem?_setIfInBounds_ne (by omega), Array.getElem?_setIfInBounds_self_of_lt (by omega)]
    · rw [Array.getElem?_setIfInBounds_ne (by omega), Array.getElem?_setIfInBounds_self_of_lt (by simp; omega)]
    · rw [Array.getElem?_setIfInBounds_self_of_lt (by simp; omega)]
    · exact (((hWT.far _ _ (fun k hk => by show k ≠ w.heap.size + 2; omega)).far _ _ (fun k hk => by show k ≠ w.heap.size + 2; omega)).far _ _ (fun k hk => by show k ≠ w.heap.size + 2; omega)).mono (fun k hk => by omega)
  · simp only [if_neg hjk]
    obtain ⟨q0, q1, q2, q3⟩ := hel j (by omega)
    refine ⟨?_, ?_, ?_, ?_⟩
    · rw [Array.getElem?_setIfInBounds_ne (by omega), Array.getElem?_setIfInBounds_ne (by omega), Array.getElem?_setIfInBounds_ne (by omega)]
      exact q0
    · rw [Array.getElem?_setIfInBounds_ne (by omega), Array.getElem?_setIfInBounds_ne (by omega), Array.getElem?_setIfInBounds_ne (by omega)]
      exact q1
    · rw [Array.getElem?_setIfInBounds_ne (by omega), Array.getElem?_setIfInBounds_ne (by omega), Array.getElem?_setIfInBounds_ne (by omega)]
      exact q2
    · exact ((((q3.later h1).far _ _ (fun k hk => by show k ≠ w.heap.size + 2; omega)).far _ _ (fun k hk => by show k ≠ w.heap.size + 2; omega)).far _ _ (fun k hk => by show k ≠ w.heap.size + 2; omega))

set_option maxHeartbeats 2000000 in
set_option maxRecDepth 100000 in
theorem twin_calls : ∀ (n : Nat) (t : S25) (A : Option Addr) (c : Nat) (w : World), szT t ≤ n → szT t ≤ 5864062014805 → k25.C w A t.f2.length t.f2 → t.f2.length ≤ c →
    Calls Try.prog 27 #[.agg #[.bool t.f0, .string t.f1, .slice A t.f2.length c]] w fun e w' => ∃ v, e = .returned (.agg #[.bool t.f0, .string t.f1, v]) ∧ WT w' (fun k => w.heap.size ≤ k) v t.f2 ∧ Below w.heap.size w w'
  | 0, t, A, c, w, h, _, _, _ => by have := szT_pos t; omega
  | n + 1, t, A, c, w, hn, hs, hA, hc => by
    have ih := fun (kk : Nat) (hk : kk < t.f2.length) A' c' W hC hc' => twin_calls n (rd_T25 t.f2 (kk : Int)) A' c' W (by
      have := szL_mem t.f2 _ (getD_mem t.f2 z25 kk hk)
      have h2 : szT t = szL t.f2 + 1 := by cases t; simp [szT]
      show szT (t.f2.getD kk z25) ≤ n
      omega) (by
      have := szL_mem t.f2 _ (getD_mem t.f2 z25 kk hk)
      have h2 : szT t = szL t.f2 + 1 := by cases t; simp [szT]
      show szT (t.f2.getD kk z25) ≤ 5864062014805
      omega) hC hc'
    have hlen : t.f2.length ≤ 5864062014805 := by
      have h2 : szT t = szL t.f2 + 1 := by cases t; simp [szT]
      have h3 := szL_len t.f2
      omega
    have HA := Aside0.mk hA
    have HC := Aside0.mk hc
    have IH := Aside0.mk ih
    clear hA hc ih hs hn
    have hb2 := below_two (w := w) (.cells #[.bool t.f0, .string t.f1, .slice none 0 0] 25) (.cells #[.bool false, .string ⟨#[]⟩, .slice none 0 0] 25)
    have B1 := blk_mid (w := w) (.cells #[.bool t.f0, .string t.f1, .slice none 0 0] 25) (.cells #[.bool false, .string ⟨#[]⟩, .slice none 0 0] 25)
    have B2 := blk_top (w := w) (.cells #[.bool t.f0, .string t.f1, .slice none 0 0] 25) (.cells #[.bool false, .string ⟨#[]⟩, .slice none 0 0] 25)
    rcases Nat.eq_zero_or_pos t.f2.length with h0 | h0
    · have d0 : decide (0 < t.f2.length) = false := decide_eq_false (by omega)
      have HL := List.length_eq_zero_iff.1 h0
      go_enter Try.func27, Try.ntmps27
      go_wp2
      generalize (w.alloc (.cells #[.bool t.f0, .string t.f1, .slice none 0 0] 25)).alloc (.cells #[.bool false, .string ⟨#[]⟩, .slice none 0 0] 25) = W0 at *
      go_loopg [18] 1 (fun gg v18 wr => v18 = .int .i64 0 ∧ wr = W0)
      case atStart => exact ⟨rfl, rfl⟩
      case round =>
        obtain ⟨rfl, rfl⟩ := hrel
        obtain ⟨c0, c1, c2, f0, f1, f2⟩ := box3 B1
        obtain ⟨e0, e1, e2, g0, g1, g2⟩ := box3 B2
        go_wp2
        refine bodyPost_ret (results_cell_row rfl _ _ (w.heap.size + 1) 25 #[.bool t.f0, .string t.f1, .slice none 0 0] (0, 0) _ rfl (set3 B2) Try.underlying25 rfl (by kernel_rfl)) rfl ?_
        exact ⟨_, rfl, by rw [HL]; exact .nil _ _, ((hb2.setCell (by simp) _).setCell (by simp) _).setCell (by simp) _⟩
    · have d0 : decide (0 < t.f2.length) = true := decide_eq_true h0
      have hmk := fun W => run_mkT W t.f2.length hlen
      go_enter Try.func27, Try.ntmps27
      go_wp2_with fail
      obtain ⟨W0, hW0⟩ : ∃ W0, ((w.alloc (.cells #[.bool t.f0, .string t.f1, .slice (some ⟨w.heap.size + 1 + 1, 0, none⟩) t.f2.length t.f2.length] 25)).alloc (.cells #[.bool false, .string ⟨#[]⟩, .slice none 0 0] 25)).alloc (.cells (madeCells #[.bool false, .string ⟨#[]⟩, .slice none 0 0] (t.f2.length * 3)) 25) = W0 := ⟨_, rfl⟩
      have hS0 : TwinAt w t 0 W0 := by
        rw [← hW0]
        refine ⟨blk_alloc (blk_mid _ _) _, blk_alloc (blk_top _ _) _, ⟨madeCells #[.bool false, .string ⟨#[]⟩, .slice none 0 0] (t.f2.length * 3), fun _ => undef, ?_, size_madeCells _ _, fun j hj => absurd hj (by omega)⟩, (below_two _ _).alloc (by simp; omega) _⟩
        have := blk_new ((w.alloc (.cells #[.bool t.f0, .string t.f1, .slice (some ⟨w.heap.size + 1 + 1, 0, none⟩) t.f2.length t.f2.length] 25)).alloc (.cells #[.bool false, .string ⟨#[]⟩, .slice none 0 0] 25)) (.cells (madeCells #[.bool false, .string ⟨#[]⟩, .slice none 0 0] (t.f2.length * 3)) 25)
        simpa using this
      rw [hW0]
      clear hW0 B1 B2 hb2 hmk
      go_loopg [18] t.f2.length (fun gg v18 wr => ∃ kk : Nat, kk ≤ t.f2.length ∧ gg + kk = t.f2.length ∧ v18 = .int .i64 (kk : Int) ∧ Aside0 (TwinAt w t kk wr))
      case atStart => exact ⟨0, by omega, by omega, rfl, ⟨hS0⟩⟩
      case round =>
        obtain ⟨kk, hk1, hk2, rfl, hT⟩ := hrel
        clear hS0
        obtain ⟨B1, B2, ⟨cur, vs, B3, hz, hel⟩, hb⟩ := hT.out
        obtain ⟨c0, c1, c2, f0, f1, f2⟩ := box3 B1
        obtain ⟨e0, e1, e2, g0, g1, g2⟩ := box3 B2
        by_cases hkk : kk < t.f2.length
        · have q0 : decide (kk < t.f2.length) = true := decide_eq_true hkk
          obtain ⟨ad, A2, c2', rfl, hx0, hx1, hx2, hl2, hC2⟩ := at_T25 HA.out (kk : Int) (by omega) (by omega)
          have HCE := fun (W : World) (hw : Below w.heap.size w W) => Kd.C_below hC2 hw
          replace hx0 := pw_cell_below hb hx0
          replace hx1 := pw_cell_below hb hx1
          replace hx2 := pw_cell_below hb hx2
          simp only [Int.toNat_natCast] at hx0 hx1 hx2
          have hcall := fun W (hw : TwinS w wr (rd_T25 t.f2 (kk : Int)) A2 c2' (.slice (some ⟨w.heap.size + 2, 0, none⟩) t.f2.length t.f2.length) W) => (IH.out kk hkk A2 c2' W (HCE W hw.2.2.2.2) hl2).mono (fun _ W' h => show ∃ v, _ ∧ WT W' (fun k => W.heap.size ≤ k) v _ ∧ Below W.heap.size W W' ∧ TwinS w wr (rd_T25 t.f2 (kk : Int)) A2 c2' (.slice (some ⟨w.heap.size + 2, 0, none⟩) t.f2.length t.f2.length) W' from by obtain ⟨v, h1, h2, h3⟩ := h; exact ⟨v, h1, h2, h3, hw.step h3⟩)
          have hlt := blk_lt B3
          clear HCE
          generalize hX : rd_T25 t.f2 (kk : Int) = x at hx0 hx1 hx2 hl2 hC2 hcall
          have HX := Lib.hid hX
          have HEL := Aside0.mk hel
          have HB1 := Aside0.mk B1
          have HB2 := Aside0.mk B2
          have HB3 := Aside0.mk B3
          have HB := Aside0.mk hb
          clear hX hel hb hC2 hT
          have hc0 : cur[kk * 3]? = some cur[kk * 3] := Array.getElem?_eq_getElem (by omega)
          have hc1 : cur[kk * 3 + 1]? = some cur[kk * 3 + 1] := Array.getElem?_eq_getElem (by omega)
          have hc2 : cur[kk * 3 + 2]? = some cur[kk * 3 + 2] := Array.getElem?_eq_getElem (by omega)
          go_wp2_with fail
          have hS1 : TwinS w wr x A2 c2' (.slice (some ⟨w.heap.size + 2, 0, none⟩) t.f2.length t.f2.length) (wr.alloc (.cells #[.bool x.f0, .string x.f1, .slice A2 x.f2.length c2'] 25)).drew := by
            have BN := blk_new wr (.cells #[.bool x.f0, .string x.f1, .slice A2 x.f2.length c2'] 25)
            obtain ⟨n0, n1, n2, _⟩ := box3 BN
            exact ⟨n0, n1, n2, (box3 (blk_alloc HB1.out (.cells #[.bool x.f0, .string x.f1, .slice A2 x.f2.length c2'] 25))).2.2.1, below_drew1 (HB.out.alloc HB.out.size _)⟩
          go_region_held3 (fun W => TwinS w wr x A2 c2' (.slice (some ⟨w.heap.size + 2, 0, none⟩) t.f2.length t.f2.length) W)
            (first | exact hS1 | assumption | exact TwinS.put hlt (by assumption) _ _ _ _ _ _)
            (first | (go_at_call 27; refine (hcall _ (by assumption)).mono ?_; rintro e w1 ⟨v, rfl, hWT, hB1, hN⟩; obtain ⟨A4, c4, hv4, _⟩ := hWT.reads; subst hv4; have hbN := below_step (below_drew1 (below_one (w := wr) (.cells #[.bool x.f0, .string x.f1, .slice A2 x.f2.length c2'] 25))) hB1; have W3 := blk_below HB3.out hbN; have s0 := (blk_cell W3 (kk * 3)).trans hc0; have s1 := (blk_cell W3 (kk * 3 + 1)).trans hc1; have s2 := (blk_cell W3 (kk * 3 + 2)).trans hc2; have r0 := blk_frozen W3 (kk * 3); have r1 := blk_frozen W3 (kk * 3 + 1); have r2 := blk_frozen W3 (kk * 3 + 2)))
          have HR := TwinAt.next (HX.out) HB1.out HB2.out HB3.out hz HEL.out HB.out hkk (hWT.mono (fun k hk => by simp at hk; omega)) hbN
          clear hbN hWT hS1 hcall W3 s0 s1 s2 r0 r1 r2 hc0 hc1 hc2 hx0 hx1 hx2 c0 c1 c2 f0 f1 f2 e0 e1 e2 g0 g1 g2
          try clear hS0
          go_wp2
          go_roundg (t.f2.length - kk - 1)
          case measure => omega
          case rel => exact ⟨kk + 1, by omega, by omega, by simp, ⟨HR⟩⟩
        · have q0 : decide (kk < t.f2.length) = false := decide_eq_false hkk
          obtain rfl : kk = t.f2.length := by omega
          clear hkk
          have HEL := Aside0.mk hel
          clear hel
          go_wp2
          refine bodyPost_ret (results_cell_row rfl _ _ (w.heap.size + 1) 25 #[.bool t.f0, .string t.f1, .slice (some ⟨w.heap.size + 2, 0, none⟩) t.f2.length t.f2.length] (0, 0) _ rfl (set3 B2) Try.underlying25 rfl (by kernel_rfl)) rfl ?_
          refine ⟨_, rfl, .row _ _ cur _ vs h0 (by show w.heap.size ≤ w.heap.size + 2; omega) (blk_far (blk_far (blk_far B3 (by simp) _) (by simp) _) (by simp) _) (Nat.le_refl _) (by omega) hz (fun j hj => (HEL.out j hj).1) (fun j hj => (HEL.out j hj).2.1) (fun j hj => (HEL.out j hj).2.2.1) (fun j hj => ?_), ((hb.setCell (by simp) _).setCell (by simp) _).setCell (by simp) _⟩
          refine WT.mono ((((HEL.out j hj).2.2.2.far _ _ ?_).far _ _ ?_).far _ _ ?_) (fun k hk => Nat.le_trans (by omega) hk)
          all_goals (intro k hk; show k ≠ w.heap.size + 1; omega)

def types_Twin.f (a0_0 : Bool) (a0_1 : ByteArray) (l0_2 : List (S25)) : Option (Bool × ByteArray × (List (S25))) :=
  if szL l0_2 < 5864062014805 then some (a0_0, a0_1, l0_2) else none
theorem types_Twin.tree (a0_0 : Bool) (a0_1 : ByteArray) (A0_2 : Option Addr) (c0_2 : Nat) (l0_2 : List (S25)) (r1 : Bool) (r2 : ByteArray) (r3 : List (S25)) (w : World) (hr0_2 : Kd.C k25 w A0_2 l0_2.length l0_2) (hc0_2 : l0_2.length ≤ c0_2) (h : types_Twin.f a0_0 a0_1 l0_2 = some (r1, r2, r3)) :
    Calls Try.prog 27 #[.agg #[.bool a0_0, .string a0_1, .slice A0_2 l0_2.length c0_2]] w fun e w' => ∃ v2_ : Value, e = .returned (.agg #[.bool r1, .string r2, v2_]) ∧ WT w' (fun k_ => w.heap.size ≤ k_) v2_ r3 ∧ Below w.heap.size w w' := by
  unfold types_Twin.f at h
  split at h
  · simp only [Option.some.injEq, Prod.mk.injEq] at h
    obtain ⟨rfl, rfl, rfl⟩ := h
    exact twin_calls _ ⟨a0_0, a0_1, l0_2⟩ A0_2 c0_2 w (Nat.le_refl _) (by simp only [szT]; omega) hr0_2 hc0_2
  · simp at h
theorem types_Twin.calls (a0_0 : Bool) (a0_1 : ByteArray) (A0_2 : Option Addr) (c0_2 : Nat) (l0_2 : List (S25)) (r1 : Bool) (r2 : ByteArray) (r3 : List (S25)) (w : World) (hr0_2 : Kd.C k25 w A0_2 l0_2.length l0_2) (hc0_2 : l0_2.length ≤ c0_2) (h : types_Twin.f a0_0 a0_1 l0_2 = some (r1, r2, r3)) :
    Calls Try.prog 27 #[.agg #[.bool a0_0, .string a0_1, .slice A0_2 l0_2.length c0_2]] w fun e w' => ∃ v2_ : Value, e = .returned (.agg #[.bool r1, .string r2, v2_]) ∧ Kd.V k25 25 w' w.heap.size (fun k_ => w.heap.size ≤ k_) v2_ r3 ∧ Below w.heap.size w w' :=
  (types_Twin.tree a0_0 a0_1 A0_2 c0_2 l0_2 r1 r2 r3 w hr0_2 hc0_2 h).mono (fun _ _ ⟨v, h1, h2, h3⟩ => ⟨v, h1, h2.V _, h3⟩)
end Go.Proofs.Ytgnklkmifcmlhaa.Q
