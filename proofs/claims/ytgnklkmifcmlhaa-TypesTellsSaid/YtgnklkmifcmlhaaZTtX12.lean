/- Proved here: parts of the proof of a given statement (HRowTypesTells): contracts of the functions that it reaches, what they answer, and in the last text the statement itself. Conditions: those that each theorem names. -/
import Derived.Test.YtgnklkmifcmlhaaZTtX10
import Derived.Test.YtgnklkmifcmlhaaZTtX6
import Derived.Test.YtgnklkmifcmlhaaZTtX11
/- Proved here: the walk of the law TypesTells. Conditions: those that each theorem names. -/
namespace Go.Proofs.Ytgnklkmifcmlhaa.Q
open Go.RowKit Go.Shelf Go.Proofs.YtgnklkmifcmlhaaW.PrintWords Go.Proofs.YtgnklkmifcmlhaaW.PrintMore
set_option linter.unusedVariables false
set_option linter.unusedSimpArgs false
attribute [local go_sem] Oper.semAt_some

abbrev TlS (w : World) (p t : S25) (A : Option Addr) (c : Nat) (B : Option Addr) (d : Nat) (W : World) : Prop :=
  W.cell? ⟨w.heap.size, 0, none⟩ = some (.bool p.f0) ∧ W.cell? ⟨w.heap.size, 1, none⟩ = some (.string p.f1) ∧ W.cell? ⟨w.heap.size, 2, none⟩ = some (.slice A p.f2.length c) ∧
    W.cell? ⟨w.heap.size + 1, 0, none⟩ = some (.bool t.f0) ∧ W.cell? ⟨w.heap.size + 1, 1, none⟩ = some (.string t.f1) ∧ W.cell? ⟨w.heap.size + 1, 2, none⟩ = some (.slice B t.f2.length d) ∧ w.heap.size < W.heap.size ∧ w.heap.size + 1 < W.heap.size ∧ Below w.heap.size w W
theorem TlS.step {w : World} {p t : S25} {A : Option Addr} {c : Nat} {B : Option Addr} {d : Nat} {W W' : World} (h : TlS w p t A c B d W) (hb : Below W.heap.size W W') : TlS w p t A c B d W' :=
  ⟨pw_cell_below hb h.1, pw_cell_below hb h.2.1, pw_cell_below hb h.2.2.1, pw_cell_below hb h.2.2.2.1, pw_cell_below hb h.2.2.2.2.1, pw_cell_below hb h.2.2.2.2.2.1, Nat.lt_of_lt_of_le h.2.2.2.2.2.2.1 hb.size, Nat.lt_of_lt_of_le h.2.2.2.2.2.2.2.1 hb.size, below_step h.2.2.2.2.2.2.2.2 hb⟩
theorem TlS.below {w : World} {p t : S25} {A : Option Addr} {c : Nat} {B : Option Addr} {d : Nat} {W : World} (h : TlS w p t A c B d W) : Below w.heap.size w W := h.2.2.2.2.2.2.2.2
abbrev T9 (w : World) (p t : S25) (A : Option Addr) (c : Nat) (B : Option Addr) (d : Nat) (g : Nat) (A5 : Option Addr) (c5 : Nat) (W9 W : World) : Prop :=
  W.cell? ⟨w.heap.size, 0, none⟩ = some (.bool p.f0) ∧ W.cell? ⟨w.heap.size, 1, none⟩ = some (.string p.f1) ∧ W.cell? ⟨w.heap.size, 2, none⟩ = some (.slice A p.f2.length c) ∧
    W.cell? ⟨w.heap.size + 1, 0, none⟩ = some (.bool t.f0) ∧ W.cell? ⟨w.heap.size + 1, 1, none⟩ = some (.string t.f1) ∧ W.cell? ⟨w.heap.size + 1, 2, none⟩ = some (.slice B t.f2.length d) ∧
    W.cell? ⟨g, 0, none⟩ = some (.bool p.f0) ∧ W.cell? ⟨g, 1, none⟩ = some (.string p.f1) ∧ W.cell? ⟨g, 2, none⟩ = some (.slice A5 p.f2.length c5) ∧ Below W9.heap.size W9 W
theorem T9.mk {w : World} {p t : S25} {A : Option Addr} {c : Nat} {B : Option Addr} {d : Nat} {g : Nat} {A5 : Option Addr} {c5 : Nat} {W9 : World} (h : T9 w p t A c B d g A5 c5 W9 W9) {W : World} (hb : Below W9.heap.size W9 W) : T9 w p t A c B d g A5 c5 W9 W := by
  obtain ⟨h0, h1, h2, h3, h4, h5, h6, h7, h8, _⟩ := h
  exact ⟨pw_cell_below hb h0, pw_cell_below hb h1, pw_cell_below hb h2, pw_cell_below hb h3, pw_cell_below hb h4, pw_cell_below hb h5, pw_cell_below hb h6, pw_cell_below hb h7, pw_cell_below hb h8, hb⟩
theorem T9.below {w : World} {p t : S25} {A : Option Addr} {c : Nat} {B : Option Addr} {d : Nat} {g : Nat} {A5 : Option Addr} {c5 : Nat} {W9 W : World} (h : T9 w p t A c B d g A5 c5 W9 W) : Below W9.heap.size W9 W := h.2.2.2.2.2.2.2.2.2
abbrev T10 (w : World) (p t dx dy : S25) (A : Option Addr) (c : Nat) (B : Option Addr) (d g10 g13 g16 : Nat) (A10 : Option Addr) (c10 : Nat) (A11 : Option Addr) (c11 : Nat) (A13 : Option Addr) (c13 : Nat) (A14 : Option Addr) (c14 : Nat) (A16 : Option Addr) (c16 : Nat) (W10 W : World) : Prop :=
  W.cell? ⟨w.heap.size, 0, none⟩ = some (.bool p.f0) ∧ W.cell? ⟨w.heap.size, 1, none⟩ = some (.string p.f1) ∧ W.cell? ⟨w.heap.size, 2, none⟩ = some (.slice A p.f2.length c) ∧ W.cell? ⟨w.heap.size + 1, 0, none⟩ = some (.bool t.f0) ∧ W.cell? ⟨w.heap.size + 1, 1, none⟩ = some (.string t.f1) ∧ W.cell? ⟨w.heap.size + 1, 2, none⟩ = some (.slice B t.f2.length d) ∧ W.cell? ⟨g10, 0, none⟩ = some (.bool dx.f0) ∧ W.cell? ⟨g10, 1, none⟩ = some (.string dx.f1) ∧ W.cell? ⟨g10, 2, none⟩ = some (.slice A10 dx.f2.length c10) ∧ W.cell? ⟨g10 + 1, 0, none⟩ = some (.bool dy.f0) ∧ W.cell? ⟨g10 + 1, 1, none⟩ = some (.string dy.f1) ∧ W.cell? ⟨g10 + 1, 2, none⟩ = some (.slice A11 dy.f2.length c11) ∧ W.cell? ⟨g13, 0, none⟩ = some (.bool dx.f0) ∧ W.cell? ⟨g13, 1, none⟩ = some (.string dx.f1) ∧ W.cell? ⟨g13, 2, none⟩ = some (.slice A13 dx.f2.length c13) ∧ W.cell? ⟨g13 + 1, 0, none⟩ = some (.bool dy.f0) ∧ W.cell? ⟨g13 + 1, 1, none⟩ = some (.string dy.f1) ∧ W.cell? ⟨g13 + 1, 2, none⟩ = some (.slice A14 dy.f2.length c14) ∧ W.cell? ⟨g16, 0, none⟩ = some (.bool p.f0) ∧ W.cell? ⟨g16, 1, none⟩ = some (.string p.f1) ∧ W.cell? ⟨g16, 2, none⟩ = some (.slice A16 p.f2.length c16) ∧ Below W10.heap.size W10 W
theorem T10.mk {w : World} {p t dx dy : S25} {A : Option Addr} {c : Nat} {B : Option Addr} {d g10 g13 g16 : Nat} {A10 : Option Addr} {c10 : Nat} {A11 : Option Addr} {c11 : Nat} {A13 : Option Addr} {c13 : Nat} {A14 : Option Addr} {c14 : Nat} {A16 : Option Addr} {c16 : Nat} {W10 : World} (h : T10 w p t dx dy A c B d g10 g13 g16 A10 c10 A11 c11 A13 c13 A14 c14 A16 c16 W10 W10) {W : World} (hb : Below W10.heap.size W10 W) : T10 w p t dx dy A c B d g10 g13 g16 A10 c10 A11 c11 A13 c13 A14 c14 A16 c16 W10 W := by
  obtain ⟨h0, h1, h2, h3, h4, h5, h6, h7, h8, h9, h10, h11, h12, h13, h14, h15, h16, h17, h18, h19, h20, _⟩ := h
  exact ⟨pw_cell_below hb h0, pw_cell_below hb h1, pw_cell_below hb h2, pw_cell_below hb h3, pw_cell_below hb h4, pw_cell_below hb h5, pw_cell_below hb h6, pw_cell_below hb h7, pw_cell_below hb h8, pw_cell_below hb h9, pw_cell_below hb h10, pw_cell_below hb h11, pw_cell_below hb h12, pw_cell_below hb h13, pw_cell_below hb h14, pw_cell_below hb h15, pw_cell_below hb h16, pw_cell_below hb h17, pw_cell_below hb h18, pw_cell_below hb h19, pw_cell_below hb h20, hb⟩
theorem T10.below {w : World} {p t dx dy : S25} {A : Option Addr} {c : Nat} {B : Option Addr} {d g10 g13 g16 : Nat} {A10 : Option Addr} {c10 : Nat} {A11 : Option Addr} {c11 : Nat} {A13 : Option Addr} {c13 : Nat} {A14 : Option Addr} {c14 : Nat} {A16 : Option Addr} {c16 : Nat} {W10 W : World} (h : T10 w p t dx dy A c B d g10 g13 g16 A10 c10 A11 c11 A13 c13 A14 c14 A16 c16 W10 W) : Below W10.heap.size W10 W := h.2.2.2.2.2.2.2.2.2.2.2.2.2.2.2.2.2.2.2.2.2
theorem destF_sz (t : S25) : szT (destF t).1 ≤ szT t ∧ szT (destF t).2.1 ≤ szT t := by
  have hz : szT zT ≤ szT t := by have := szT_pos t; simp [zT, szT, szL]; omega
  unfold destF
  split
  · rename_i h
    have s0 := szL_mem t.f2 _ (getD_mem t.f2 zT 0 (by omega))
    have s1 := szL_mem t.f2 _ (getD_mem t.f2 zT 1 (by omega))
    have s2 := szT_eq' t
    exact ⟨by dsimp only; omega, by dsimp only; omega⟩
  · exact ⟨hz, hz⟩
theorem sameT (y : S25) (hy : szT y ≤ 4611686018427387904) (u v : Value) (W : World) (hu : Tr W u y) (hv : Tr W v y) : Calls Try.prog 18 #[u, v] W fun e w' => e = .returned (.bool true) ∧ Below W.heap.size W w' := by
  obtain ⟨A1, c1, rfl, l1, C1⟩ := hu
  obtain ⟨A2, c2, rfl, l2, C2⟩ := hv
  obtain ⟨k, hk⟩ := (same_ev y y hy).at
  rw [cmpT_self] at hk
  exact sequentref01_Same.calls k y.f0 y.f1 A1 c1 y.f2 y.f0 y.f1 A2 c2 y.f2 _ W C1 l1 C2 l2 hk
theorem reffun_tr (x y : S25) (u v : Value) (W : World) (hu : Tr W u x) (hv : Tr W v y) (hx : szT x < 2932031007402) (hy : szT y < 2932031007402) : Calls Try.prog 37 #[u, v] W (Ret W ⟨false, funN, [x, y]⟩) := by
  obtain ⟨A1, c1, rfl, l1, C1⟩ := hu
  obtain ⟨A2, c2, rfl, l2, C2⟩ := hv
  obtain ⟨k, hk⟩ := (reffun_ev x y hx hy).at
  refine (sequentref01_Fun.calls k x.f0 x.f1 A1 c1 x.f2 y.f0 y.f1 A2 c2 y.f2 _ _ _ W C1 l1 C2 l2 hk).mono ?_
  rintro e w' ⟨v2, rfl, hN, hb⟩
  have hV := Kd.N_V (base' := 0) hN
  obtain ⟨A3, c3, rfl⟩ := Kd.V_slice hV
  obtain ⟨_, hl, hC⟩ := Kd.V_reads' hV
  exact ⟨_, rfl, ⟨A3, c3, rfl, hl, hC⟩, hb⟩
theorem refbool_tr (W : World) : Calls Try.prog 39 #[] W (Ret W ⟨false, boolN, []⟩) := by
  refine (sequentref01_Bool.calls _ _ _ W rfl).mono ?_
  rintro e w' ⟨v2, rfl, hR, hb⟩
  obtain ⟨A3, c3, rfl, hl, hC⟩ := Kd.R_reads hR
  exact ⟨_, rfl, ⟨A3, c3, rfl, hl, hC⟩, hb⟩
theorem varsF_len (t : S25) : (varsF t).1.length ≤ szT t := by
  unfold varsF
  split
  · have := varsL_len (preT t) []
    rw [preT_length] at this
    simpa using this
  · simp
set_option maxHeartbeats 8000000 in
set_option maxRecDepth 100000 in
theorem law_tells (a : S25) (A : Option Addr) (c : Nat) (b : S25) (B : Option Addr) (d : Nat) (w : World) (hA : k25.C w A a.f2.length a.f2) (hc : a.f2.length ≤ c) (hwa : wd a) (hB : k25.C w B b.f2.length b.f2) (hd : b.f2.length ≤ d) (hwb : wd b) :
    Calls Try.prog 5 #[.agg #[.bool a.f0, .string a.f1, .slice A a.f2.length c], .agg #[.bool b.f0, .string b.f1, .slice B b.f2.length d]] w fun e w' => e = .returned (.bool true) ∧ Below w.heap.size w w' := by
  obtain ⟨k0, h0⟩ := (great_ev a hwa).at
  obtain ⟨k1, h1⟩ := (great_ev b hwb).at
  have hga := fun W (hw : TlS w a b A c B d W) => (sequentref01_Great.calls k0 a.f0 a.f1 A c a.f2 _ W (Kd.C_below hA hw.below) hc h0).mono (fun _ _ h => And.intro h.1 (hw.step h.2))
  have hgb := fun W (hw : TlS w a b A c B d W) => (sequentref01_Great.calls k1 b.f0 b.f1 B d b.f2 _ W (Kd.C_below hB hw.below) hd h1).mono (fun _ _ h => And.intro h.1 (hw.step h.2))
  have hS0 : TlS w a b A c B d ((w.alloc (.cells #[.bool a.f0, .string a.f1, .slice A a.f2.length c] 25)).alloc (.cells #[.bool b.f0, .string b.f1, .slice B b.f2.length d] 25)) := by
    obtain ⟨a0, a1, a2, _⟩ := box3s (blk_mid (w := w) (.cells #[.bool a.f0, .string a.f1, .slice A a.f2.length c] 25) (.cells #[.bool b.f0, .string b.f1, .slice B b.f2.length d] 25))
    obtain ⟨b0, b1, b2, _⟩ := box3s (blk_top (w := w) (.cells #[.bool a.f0, .string a.f1, .slice A a.f2.length c] 25) (.cells #[.bool b.f0, .string b.f1, .slice B b.f2.length d] 25))
    exact ⟨a0, a1, a2, b0, b1, b2, by simp; omega, by simp, below_two _ _⟩
  clear h0 h1
  by_cases hany : greatB a = true ∨ greatB b = true
  · have key : ∀ b : Bool, b = true ∨ b = false := fun b => by cases b <;> simp
    clear hA hB
    rcases key (greatB a) with e0 | e0 <;> rw [e0] at hga
    case inl =>
      clear hgb
      go_enter Try.func5, Try.ntmps5
      go_wp2_with (first | (go_at_call 14; (with_reducible refine (hga _ hS0).mono ?_); rintro e W1 ⟨rfl, hN⟩; obtain ⟨x0, x1, x2, x3, x4, x5, x6, x7, x8⟩ := id hN))
      go_ret
      exact ⟨rfl, hN.below⟩
    rcases key (greatB b) with e1 | e1 <;> rw [e1] at hgb
    case inl =>
      go_enter Try.func5, Try.ntmps5
      go_wp2_with (first
        | (go_at_call 14; (with_reducible refine (hgb _ hN).mono ?_); rintro e W1 ⟨rfl, hN⟩; obtain ⟨x0, x1, x2, x3, x4, x5, x6, x7, x8⟩ := id hN)
        | (first | (go_at_call 14; (with_reducible refine (hga _ hS0).mono ?_); rintro e W1 ⟨rfl, hN⟩; obtain ⟨x0, x1, x2, x3, x4, x5, x6, x7, x8⟩ := id hN)))
      go_ret
      exact ⟨rfl, hN.below⟩
    exact absurd hany (by rw [e0, e1]; simp)
  · simp only [not_or, Bool.not_eq_true] at hany
    obtain ⟨e0, e1⟩ := hany
    rw [e0] at hga
    rw [e1] at hgb
    have hza := greatB_sz e0
    have hzb := greatB_sz e1
    have hfa := fit_of_wd hwa (by omega)
    have hfb := fit_of_wd hwb (by omega)
    clear e0 e1
    obtain ⟨k2, h2⟩ := (reftwin_ev a (by omega)).at
    obtain ⟨k3, h3⟩ := (refdest_ev a (by omega)).at
    have hTw := fun W (hw : TlS w a b A c B d W) => sequentref01_Twin.calls k2 a.f0 a.f1 A c a.f2 _ _ _ W (Kd.C_below hA hw.below) hc h2
    have hVo := fun W A' c' (hC : k25.C W A' a.f2.length a.f2) (hl : a.f2.length ≤ c') => vars_tr a _ W ⟨A', c', rfl, hl, hC⟩ hfa
    have hVr := fun W (hw : TlS w a b A c B d W) => refvars_calls a A c W (Kd.C_below hA hw.below) hc hfa (by omega)
    have hDo := fun W A' c' (hC : k25.C W A' a.f2.length a.f2) (hl : a.f2.length ≤ c') => dest_calls a A' c' W hC hl (by omega)
    have hDr := fun W (hw : TlS w a b A c B d W) => sequentref01_DestFun.calls k3 a.f0 a.f1 A c a.f2 _ _ _ _ _ _ _ W (Kd.C_below hA hw.below) hc h3
    have hTo := fun W A' c' (hC : k25.C W A' a.f2.length a.f2) (hl : a.f2.length ≤ c') => twin_calls (szT a) a A' c' W (Nat.le_refl _) (by omega) hC hl
    generalize hV : varsF a = V at *
    generalize hD : destF a = D at *
    obtain ⟨vl, vq⟩ := V
    obtain ⟨dx, dy, db⟩ := D
    have HV := Lib.hid hV
    have HD := Lib.hid hD
    have HA := Aside0.mk hA
    have HB := Aside0.mk hB
    dsimp only at hVo hVr hDr
    clear hV hD h2 h3 hA hB
    go_enter Try.func5, Try.ntmps5
    go_wp2_with (first
      | (go_at_call 27; refine (hTo _ A5 c5 C5 hl5).mono ?_; rintro e W8 ⟨v16, rfl, hT16, hc8⟩; obtain ⟨A16, c16, hv16, hl16, hC16⟩ := hT16.reads; subst hv16; have hN := hN.step hc8; have B5 := blk_below B5 hc8; have C5 := Kd.C_below C5 hc8; have B10 := blk_below B10 hc8; have B11 := blk_below B11 hc8; have B13 := blk_below B13 hc8; have B14 := blk_below B14 hc8)
      | (go_at_call 26; refine (hDr _ hN).mono ?_; rintro e W7 ⟨v3, v4, rfl, hR3, hR4, hc7⟩; obtain ⟨A13, c13, hv3, hl13, hC13⟩ := Kd.R_reads hR3; subst hv3; obtain ⟨A14, c14, hv4, hl14, hC14⟩ := Kd.R_reads hR4; subst hv4; have hN := hN.step hc7; have B5 := blk_below B5 hc7; have C5 := Kd.C_below C5 hc7; have B10 := blk_below B10 hc7; have B11 := blk_below B11 hc7; have hN := hN.step (below_two (w := W7) (.cells #[.bool dx.f0, .string dx.f1, .slice A13 dx.f2.length c13] 25) (.cells #[.bool dy.f0, .string dy.f1, .slice A14 dy.f2.length c14] 25)); have B5 := blk_below B5 (below_two (w := W7) (.cells #[.bool dx.f0, .string dx.f1, .slice A13 dx.f2.length c13] 25) (.cells #[.bool dy.f0, .string dy.f1, .slice A14 dy.f2.length c14] 25)); have C5 := Kd.C_below C5 (below_two (w := W7) (.cells #[.bool dx.f0, .string dx.f1, .slice A13 dx.f2.length c13] 25) (.cells #[.bool dy.f0, .string dy.f1, .slice A14 dy.f2.length c14] 25)); have B10 := blk_below B10 (below_two (w := W7) (.cells #[.bool dx.f0, .string dx.f1, .slice A13 dx.f2.length c13] 25) (.cells #[.bool dy.f0, .string dy.f1, .slice A14 dy.f2.length c14] 25)); have B11 := blk_below B11 (below_two (w := W7) (.cells #[.bool dx.f0, .string dx.f1, .slice A13 dx.f2.length c13] 25) (.cells #[.bool dy.f0, .string dy.f1, .slice A14 dy.f2.length c14] 25)); have B13 := blk_mid (w := W7) (.cells #[.bool dx.f0, .string dx.f1, .slice A13 dx.f2.length c13] 25) (.cells #[.bool dy.f0, .string dy.f1, .slice A14 dy.f2.length c14] 25); have B14 := blk_top (w := W7) (.cells #[.bool dx.f0, .string dx.f1, .slice A13 dx.f2.length c13] 25) (.cells #[.bool dy.f0, .string dy.f1, .slice A14 dy.f2.length c14] 25); obtain ⟨x0, x1, x2, x3, x4, x5, x6, x7, x8⟩ := id hN; obtain ⟨z0, z1, z2, z3, z4, z5, z6⟩ := box3s B5)
      | (go_at_call 25; refine (hDo _ A5 c5 C5 hl5).mono ?_; rintro e W6 ⟨v1, v2, rfl, hT1, hT2, hc6⟩; (try dsimp only at hT1 hT2); obtain ⟨A10, c10, hv1, hl10, hC10⟩ := hT1.reads; subst hv1; obtain ⟨A11, c11, hv2, hl11, hC11⟩ := hT2.reads; subst hv2; have hN := hN.step hc6; have B5 := blk_below B5 hc6; have C5 := Kd.C_below C5 hc6; have hN6 := hN; have B56 := B5; have C56 := C5; have hN := hN.step (below_two (w := W6) (.cells #[.bool dx.f0, .string dx.f1, .slice A10 dx.f2.length c10] 25) (.cells #[.bool dy.f0, .string dy.f1, .slice A11 dy.f2.length c11] 25)); have B5 := blk_below B5 (below_two (w := W6) (.cells #[.bool dx.f0, .string dx.f1, .slice A10 dx.f2.length c10] 25) (.cells #[.bool dy.f0, .string dy.f1, .slice A11 dy.f2.length c11] 25)); have C5 := Kd.C_below C5 (below_two (w := W6) (.cells #[.bool dx.f0, .string dx.f1, .slice A10 dx.f2.length c10] 25) (.cells #[.bool dy.f0, .string dy.f1, .slice A11 dy.f2.length c11] 25)); have B10 := blk_mid (w := W6) (.cells #[.bool dx.f0, .string dx.f1, .slice A10 dx.f2.length c10] 25) (.cells #[.bool dy.f0, .string dy.f1, .slice A11 dy.f2.length c11] 25); have B11 := blk_top (w := W6) (.cells #[.bool dx.f0, .string dx.f1, .slice A10 dx.f2.length c10] 25) (.cells #[.bool dy.f0, .string dy.f1, .slice A11 dy.f2.length c11] 25); obtain ⟨x0, x1, x2, x3, x4, x5, x6, x7, x8⟩ := id hN; obtain ⟨z0, z1, z2, z3, z4, z5, z6⟩ := box3s B5)
      | (go_at_call 24; refine (hVr _ hN).mono ?_; rintro e W5 ⟨A7, c7, rfl, hl7, hC7, hc5⟩; (try dsimp only at hl7 hC7); have hN := hN.step hc5; have B5 := blk_below B5 hc5; have C5 := Kd.C_below C5 hc5; obtain ⟨x0, x1, x2, x3, x4, x5, x6, x7, x8⟩ := id hN; obtain ⟨z0, z1, z2, z3, z4, z5, z6⟩ := box3s B5)
      | (go_at_call 23; refine (hVo _ A5 c5 C5 hl5).mono ?_; rintro e W4 ⟨A6, c6, rfl, hl6, hC6, hc4⟩; (try dsimp only at hl6 hC6); have hN := hN.step hc4; have B5 := blk_below B5 hc4; have C5 := Kd.C_below C5 hc4; obtain ⟨x0, x1, x2, x3, x4, x5, x6, x7, x8⟩ := id hN; obtain ⟨z0, z1, z2, z3, z4, z5, z6⟩ := box3s B5)
      | (go_at_call 15; (with_reducible refine (hTw _ hN).mono ?_); rintro e W3 ⟨v5, rfl, hR5, hc3⟩; obtain ⟨A5, c5, hv5, hl5, hC5⟩ := Kd.R_reads hR5; subst hv5; have hN3 := hN.step hc3; have hN := hN3.step (below_one (w := W3) (.cells #[.bool a.f0, .string a.f1, .slice A5 a.f2.length c5] 25)); have B5 := blk_new W3 (.cells #[.bool a.f0, .string a.f1, .slice A5 a.f2.length c5] 25); have C5 := Kd.C_below hC5 (below_one (w := W3) (.cells #[.bool a.f0, .string a.f1, .slice A5 a.f2.length c5] 25)))
      | (go_at_call 14; (with_reducible refine (hgb _ hN).mono ?_); rintro e W1 ⟨rfl, hN⟩; obtain ⟨x0, x1, x2, x3, x4, x5, x6, x7, x8⟩ := id hN)
      | (first | (go_at_call 14; (with_reducible refine (hga _ hS0).mono ?_); rintro e W1 ⟨rfl, hN⟩; obtain ⟨x0, x1, x2, x3, x4, x5, x6, x7, x8⟩ := id hN)))
    have b69 := below_step (below_step (below_step (below_step (below_two (w := W6) (.cells #[.bool dx.f0, .string dx.f1, .slice A10 dx.f2.length c10] 25) (.cells #[.bool dy.f0, .string dy.f1, .slice A11 dy.f2.length c11] 25)) hc7) (below_two (w := W7) (.cells #[.bool dx.f0, .string dx.f1, .slice A13 dx.f2.length c13] 25) (.cells #[.bool dy.f0, .string dy.f1, .slice A14 dy.f2.length c14] 25))) hc8) (below_one (w := W8) (.cells #[.bool a.f0, .string a.f1, .slice A16 a.f2.length c16] 25))
    have b79 := below_step (below_step (below_two (w := W7) (.cells #[.bool dx.f0, .string dx.f1, .slice A13 dx.f2.length c13] 25) (.cells #[.bool dy.f0, .string dy.f1, .slice A14 dy.f2.length c14] 25)) hc8) (below_one (w := W8) (.cells #[.bool a.f0, .string a.f1, .slice A16 a.f2.length c16] 25))
    have b89 := below_one (w := W8) (.cells #[.bool a.f0, .string a.f1, .slice A16 a.f2.length c16] 25)
    have b59 := below_step hc6 b69
    have b49 := below_step hc5 b59
    have hN9 := hN.step b89
    have B5 := blk_below B5 b89
    have B10 := blk_below B10 b89
    have B11 := blk_below B11 b89
    have B13 := blk_below B13 b89
    have B14 := blk_below B14 b89
    have B16 := blk_new W8 (.cells #[.bool a.f0, .string a.f1, .slice A16 a.f2.length c16] 25)
    have C5 := Kd.C_below C5 b89
    have L6 := Kd.C_below hC6 b49
    have L7 := Kd.C_below hC7 b59
    have P10 := hT1.later b69
    have P11 := hT2.later b69
    have P13 := Kd.C_below hC13 b79
    have P14 := Kd.C_below hC14 b79
    have P16 := hT16.later b89
    have zz := hN3.2.2.2.2.2.2.2.1
    have z6 := b69.size
    have z7 := b79.size
    have z36 : W3.heap.size + 1 ≤ W4.heap.size := by have := hc4.size; simpa using this
    have z46 := hc5.size
    have z56 := hc6.size
    have z67 : W6.heap.size + 2 ≤ W7.heap.size := by have := hc7.size; simpa using this
    have z78 : W7.heap.size + 2 ≤ W8.heap.size := by have := hc8.size; simpa using this
    have z89 : W8.heap.size + 1 = (W8.alloc (.cells #[.bool a.f0, .string a.f1, .slice A16 a.f2.length c16] 25)).heap.size := by simp
    have b39 : Below (W3.alloc (.cells #[.bool a.f0, .string a.f1, .slice A5 a.f2.length c5] 25)).heap.size (W3.alloc (.cells #[.bool a.f0, .string a.f1, .slice A5 a.f2.length c5] 25)) (W8.alloc (.cells #[.bool a.f0, .string a.f1, .slice A16 a.f2.length c16] 25)) := below_step (below_step (below_step hc4 hc5) hc6) b69
    have HQ10 := hT1.bound.later b69
    have HQ16 := hT16.bound.later b89
    have C3a := Kd.C_below hC5 (below_one (w := W3) (.cells #[.bool a.f0, .string a.f1, .slice A5 a.f2.length c5] 25))
    have hS3a := hN3.step (below_one (w := W3) (.cells #[.bool a.f0, .string a.f1, .slice A5 a.f2.length c5] 25))
    have B3a := blk_new W3 (.cells #[.bool a.f0, .string a.f1, .slice A5 a.f2.length c5] 25)
    have HT10 := hl10
    clear hC6 hC7 hT1 hT2 hR3 hR4 hR5 hC5 hC10 hC11 hC13 hC14 hC16 hT16 hc3 hc4 hc5 hc6 hc7 hc8 b49 b59 b69 b79 b89 hTw hVo hVr hDo hDr hTo hga hgb hS0 hN hN3 hN6 B56 C56 x0 x1 x2 x3 x4 x5 x6 x7 x8 z0 z1 z2 z3 z4 z5
    obtain ⟨W9, hW9⟩ : ∃ W9, W8.alloc (.cells #[.bool a.f0, .string a.f1, .slice A16 a.f2.length c16] 25) = W9 := ⟨_, rfl⟩
    rw [hW9] at b39 HQ10 HQ16 hN9 B5 B10 B11 B13 B14 B16 C5 L6 L7 P10 P11 P13 P14 P16 z6 z7 z89
    rw [hW9]
    clear hW9
    obtain ⟨x0, x1, x2, x3, x4, x5, x6, x7, x8⟩ := id hN9
    obtain ⟨z0, z1, z2, _⟩ := box3s B5
    have hS9 : T9 w a b A c B d W3.heap.size A5 c5 W9 W9 := ⟨x0, x1, x2, x3, x4, x5, z0, z1, z2, Below.refl _ _⟩
    have hst := fun {W W' : World} (h : T9 w a b A c B d W3.heap.size A5 c5 W9 W) (hb : Below W.heap.size W W') => hS9.mk (below_step h.below hb)
    obtain ⟨kc, hkc⟩ := (check_ev a hfa).at
    obtain ⟨kr, hkr⟩ := (refcheck_ev a hfa).at
    generalize (if chkB a = true then (0 : Int) else 10) = qc at *
    obtain ⟨ks, hks⟩ := (size_ev a (by omega)).at
    obtain ⟨kt, hkt⟩ := (refsize_ev a (by omega)).at
    obtain ⟨kv, hkv⟩ := (samestrs_ev vl (by have := varsF_len a; rw [HV.out] at this; dsimp only at this; omega)).at
    obtain ⟨kcm, hkcm⟩ := (refcmp_ev a b (by omega)).at
    obtain ⟨ksm, hksm⟩ := (same_ev a b (by omega)).at
    have wA := fun {W : World} (h : T9 w a b A c B d W3.heap.size A5 c5 W9 W) => Kd.C_below HA.out (below_step hN9.below h.below)
    have wB := fun {W : World} (h : T9 w a b A c B d W3.heap.size A5 c5 W9 W) => Kd.C_below HB.out (below_step hN9.below h.below)
    have g28 := fun W (h : T9 w a b A c B d W3.heap.size A5 c5 W9 W) => (types_Check.calls kc a.f0 a.f1 A5 c5 a.f2 _ W (Kd.C_below C5 h.below) hl5 hkc).mono (fun _ _ q => And.intro q.1 (hst h q.2))
    have g29 := fun W (h : T9 w a b A c B d W3.heap.size A5 c5 W9 W) => (sequentref01_Check.calls kr a.f0 a.f1 A c a.f2 _ W (wA h) hc hkr).mono (fun _ _ q => And.intro q.1 (hst h q.2))
    have g30 := fun W (h : T9 w a b A c B d W3.heap.size A5 c5 W9 W) => (types_Size.calls ks a.f0 a.f1 A5 c5 a.f2 _ W (Kd.C_below C5 h.below) hl5 hks).mono (fun _ _ q => And.intro q.1 (hst h q.2))
    have g31 := fun W (h : T9 w a b A c B d W3.heap.size A5 c5 W9 W) => (sequentref01_Size.calls kt a.f0 a.f1 A c a.f2 _ W (wA h) hc hkt).mono (fun _ _ q => And.intro q.1 (hst h q.2))
    have g32 := fun W (h : T9 w a b A c B d W3.heap.size A5 c5 W9 W) => (sequentref01_SameStrings.calls kv A6 c6 vl A7 c7 vl true W (Kd.C_below L6 h.below) hl6 (Kd.C_below L7 h.below) hl7 hkv).mono (fun _ _ q => And.intro q.1 (hst h q.2.below))
    have g33 := fun W (h : T9 w a b A c B d W3.heap.size A5 c5 W9 W) => (compare_ok _ a b (Nat.le_refl _) A5 c5 B d W (Kd.C_below C5 h.below) hl5 (wB h) hd).mono (fun _ _ q => And.intro q.1 (hst h q.2))
    have g34 := fun W (h : T9 w a b A c B d W3.heap.size A5 c5 W9 W) => (sequentref01_Compare.calls kcm a.f0 a.f1 A c a.f2 b.f0 b.f1 B d b.f2 _ W (wA h) hc (wB h) hd hkcm).mono (fun _ _ q => And.intro q.1 (hst h q.2))
    have g35 := fun W (h : T9 w a b A c B d W3.heap.size A5 c5 W9 W) => (same_calls a b A5 c5 B d W (Kd.C_below C5 h.below) hl5 (wB h) hd).mono (fun _ _ q => And.intro q.1 (hst h q.2))
    have g18 := fun W (h : T9 w a b A c B d W3.heap.size A5 c5 W9 W) => (sequentref01_Same.calls ksm a.f0 a.f1 A c a.f2 b.f0 b.f1 B d b.f2 _ W (wA h) hc (wB h) hd hksm).mono (fun _ _ q => And.intro q.1 (hst h q.2))
    have hS9d := hst hS9 (below_drew1 (Below.refl _ _))
    clear hkc hkr hks hkt hkv hkcm hksm
    generalize cmpT a b = cab at *
    generalize ((szT a : Nat) : Int) = sza at *
    go_region_held3 (fun W => T9 w a b A c B d W3.heap.size A5 c5 W9 W)
      (first | (with_reducible exact hS9d) | (with_reducible assumption))
      (first
        | (go_at_call 28; (with_reducible refine (g28 _ (by with_reducible assumption)).mono ?_); rintro e W1 ⟨rfl, hN⟩)
        | (go_at_call 29; (with_reducible refine (g29 _ (by with_reducible assumption)).mono ?_); rintro e W1 ⟨rfl, hN⟩)
        | (go_at_call 30; (with_reducible refine (g30 _ (by with_reducible assumption)).mono ?_); rintro e W1 ⟨rfl, hN⟩)
        | (go_at_call 31; (with_reducible refine (g31 _ (by with_reducible assumption)).mono ?_); rintro e W1 ⟨rfl, hN⟩)
        | (go_at_call 32; (with_reducible refine (g32 _ (by with_reducible assumption)).mono ?_); rintro e W1 ⟨rfl, hN⟩)
        | (go_at_call 33; (with_reducible refine (g33 _ (by with_reducible assumption)).mono ?_); rintro e W1 ⟨rfl, hN⟩)
        | (go_at_call 34; (with_reducible refine (g34 _ (by with_reducible assumption)).mono ?_); rintro e W1 ⟨rfl, hN⟩)
        | (go_at_call 35; (with_reducible refine (g35 _ (by with_reducible assumption)).mono ?_); rintro e W1 ⟨rfl, hN⟩)
        | (go_at_call 18; (with_reducible refine (g18 _ (by with_reducible assumption)).mono ?_); rintro e W1 ⟨rfl, hN⟩))
    have nb := hN.below
    have q39 := below_step b39 nb
    have B10 := blk_below B10 nb
    have B11 := blk_below B11 nb
    have B13 := blk_below B13 nb
    have B14 := blk_below B14 nb
    have B16 := blk_below B16 nb
    have Q10 := HQ10.later nb
    have Q16 := HQ16.later nb
    have P10 := P10.later nb
    have P11 := P11.later nb
    have P13 := Kd.C_below P13 nb
    have P14 := Kd.C_below P14 nb
    have P16 := P16.later nb
    have hNw := below_step hN9.below nb
    obtain ⟨x0, x1, x2, x3, x4, x5, _⟩ := id hN
    obtain ⟨m0, m1, m2, _⟩ := box3s B10
    obtain ⟨n0, n1, n2, _⟩ := box3s B11
    obtain ⟨o0, o1, o2, _⟩ := box3s B13
    obtain ⟨p0, p1, p2, _⟩ := box3s B14
    obtain ⟨t0, t1, t2, _⟩ := box3s B16
    have hS10 : T10 w a b dx dy A c B d W6.heap.size W7.heap.size W8.heap.size A10 c10 A11 c11 A13 c13 A14 c14 A16 c16 W1 W1 := ⟨x0, x1, x2, x3, x4, x5, m0, m1, m2, n0, n1, n2, o0, o1, o2, p0, p1, p2, t0, t1, t2, Below.refl _ _⟩
    have hsx := (destF_sz a).1
    have hsy := (destF_sz a).2
    rw [HD.out] at hsx hsy
    dsimp only at hsx hsy
    have ht := fun {W W' : World} (h : T10 w a b dx dy A c B d W6.heap.size W7.heap.size W8.heap.size A10 c10 A11 c11 A13 c13 A14 c14 A16 c16 W1 W) (hb : Below W.heap.size W W') => hS10.mk (below_step h.below hb)
    have vA1 := fun {W : World} (h : T10 w a b dx dy A c B d W6.heap.size W7.heap.size W8.heap.size A10 c10 A11 c11 A13 c13 A14 c14 A16 c16 W1 W) => Kd.C_below HA.out (below_step hNw h.below)
    have vB1 := fun {W : World} (h : T10 w a b dx dy A c B d W6.heap.size W7.heap.size W8.heap.size A10 c10 A11 c11 A13 c13 A14 c14 A16 c16 W1 W) => Kd.C_below HB.out (below_step hNw h.below)
    have tx := fun W (h : T10 w a b dx dy A c B d W6.heap.size W7.heap.size W8.heap.size A10 c10 A11 c11 A13 c13 A14 c14 A16 c16 W1 W) => (sameT dx (by omega) (.agg #[.bool dx.f0, .string dx.f1, .slice A10 dx.f2.length c10]) (.agg #[.bool dx.f0, .string dx.f1, .slice A13 dx.f2.length c13]) W ⟨_, _, rfl, hl10, Kd.C_below (Kd.V_reads' (P10.V 0)).2.2 h.below⟩ ⟨_, _, rfl, hl13, Kd.C_below P13 h.below⟩).mono (fun _ _ q => And.intro q.1 (ht h q.2))
    have ty := fun W (h : T10 w a b dx dy A c B d W6.heap.size W7.heap.size W8.heap.size A10 c10 A11 c11 A13 c13 A14 c14 A16 c16 W1 W) => (sameT dy (by omega) (.agg #[.bool dy.f0, .string dy.f1, .slice A11 dy.f2.length c11]) (.agg #[.bool dy.f0, .string dy.f1, .slice A14 dy.f2.length c14]) W ⟨_, _, rfl, hl11, Kd.C_below (Kd.V_reads' (P11.V 0)).2.2 h.below⟩ ⟨_, _, rfl, hl14, Kd.C_below P14 h.below⟩).mono (fun _ _ q => And.intro q.1 (ht h q.2))
    have ta := fun W (h : T10 w a b dx dy A c B d W6.heap.size W7.heap.size W8.heap.size A10 c10 A11 c11 A13 c13 A14 c14 A16 c16 W1 W) => (sameT a (by omega) (.agg #[.bool a.f0, .string a.f1, .slice A16 a.f2.length c16]) (.agg #[.bool a.f0, .string a.f1, .slice A a.f2.length c]) W ⟨_, _, rfl, hl16, Kd.C_below (Kd.V_reads' (P16.V 0)).2.2 h.below⟩ ⟨_, _, rfl, hc, vA1 h⟩).mono (fun _ _ q => And.intro q.1 (ht h q.2))
    have tf := fun W (h : T10 w a b dx dy A c B d W6.heap.size W7.heap.size W8.heap.size A10 c10 A11 c11 A13 c13 A14 c14 A16 c16 W1 W) => (fun_tr a b (.agg #[.bool a.f0, .string a.f1, .slice A a.f2.length c]) (.agg #[.bool b.f0, .string b.f1, .slice B b.f2.length d]) W ⟨_, _, rfl, hc, vA1 h⟩ ⟨_, _, rfl, hd, vB1 h⟩ (by omega) (by omega)).mono (R' := fun e w' => ∃ r, e = .returned r ∧ Tr w' r ⟨false, funN, [a, b]⟩ ∧ Below W.heap.size W w' ∧ T10 w a b dx dy A c B d W6.heap.size W7.heap.size W8.heap.size A10 c10 A11 c11 A13 c13 A14 c14 A16 c16 W1 w') (fun _ _ ⟨r, q1, q2, q3⟩ => ⟨r, q1, q2, q3, ht h q3⟩)
    have tg := fun W (h : T10 w a b dx dy A c B d W6.heap.size W7.heap.size W8.heap.size A10 c10 A11 c11 A13 c13 A14 c14 A16 c16 W1 W) => (reffun_tr a b (.agg #[.bool a.f0, .string a.f1, .slice A a.f2.length c]) (.agg #[.bool b.f0, .string b.f1, .slice B b.f2.length d]) W ⟨_, _, rfl, hc, vA1 h⟩ ⟨_, _, rfl, hd, vB1 h⟩ (by omega) (by omega)).mono (R' := fun e w' => ∃ r, e = .returned r ∧ Tr w' r ⟨false, funN, [a, b]⟩ ∧ Below W.heap.size W w' ∧ T10 w a b dx dy A c B d W6.heap.size W7.heap.size W8.heap.size A10 c10 A11 c11 A13 c13 A14 c14 A16 c16 W1 w') (fun _ _ ⟨r, q1, q2, q3⟩ => ⟨r, q1, q2, q3, ht h q3⟩)
    have ts := fun u v W (h : T10 w a b dx dy A c B d W6.heap.size W7.heap.size W8.heap.size A10 c10 A11 c11 A13 c13 A14 c14 A16 c16 W1 W) (hu : Tr W u ⟨false, funN, [a, b]⟩) (hv : Tr W v ⟨false, funN, [a, b]⟩) => (sameT ⟨false, funN, [a, b]⟩ (by simp only [szT, szL]; omega) u v W hu hv).mono (fun _ _ q => And.intro q.1 (ht h q.2))
    have tb := fun W (h : T10 w a b dx dy A c B d W6.heap.size W7.heap.size W8.heap.size A10 c10 A11 c11 A13 c13 A14 c14 A16 c16 W1 W) => (bool_calls W).mono (fun _ _ q => And.intro q.1 (ht h q.2))
    have tc := fun W (h : T10 w a b dx dy A c B d W6.heap.size W7.heap.size W8.heap.size A10 c10 A11 c11 A13 c13 A14 c14 A16 c16 W1 W) => (refbool_tr W).mono (R' := fun e w' => ∃ r, e = .returned r ∧ Tr w' r ⟨false, boolN, []⟩ ∧ T10 w a b dx dy A c B d W6.heap.size W7.heap.size W8.heap.size A10 c10 A11 c11 A13 c13 A14 c14 A16 c16 W1 w') (fun _ _ ⟨r, q1, q2, q3⟩ => ⟨r, q1, q2, ht h q3⟩)
    have td := fun u W (h : T10 w a b dx dy A c B d W6.heap.size W7.heap.size W8.heap.size A10 c10 A11 c11 A13 c13 A14 c14 A16 c16 W1 W) (hu : Tr W u ⟨false, boolN, []⟩) => (sameT ⟨false, boolN, []⟩ (by decide) (.agg #[.bool false, .string boolN, .slice none 0 0]) u W (Tr.leaf _ _ _) hu).mono (fun _ _ q => And.intro q.1 (ht h q.2))
    have hS10d := ht hS10 (below_drew1 (Below.refl _ _))
    clear g28 g29 g30 g31 g32 g33 g34 g35 g18 hst hS9d hS9
    go_wp2
    go_region_held3 (fun W => T10 w a b dx dy A c B d W6.heap.size W7.heap.size W8.heap.size A10 c10 A11 c11 A13 c13 A14 c14 A16 c16 W1 W)
      (first | (with_reducible exact hS10d) | (with_reducible assumption))
      (first
        | (go_at_call 18; (with_reducible refine (tx _ (by with_reducible assumption)).mono ?_); rintro e W2 ⟨rfl, hN⟩)
        | (go_at_call 18; (with_reducible refine (ty _ (by with_reducible assumption)).mono ?_); rintro e W2 ⟨rfl, hN⟩)
        | (go_at_call 18; (with_reducible refine (ta _ (by with_reducible assumption)).mono ?_); rintro e W2 ⟨rfl, hN⟩)
        | (go_at_call 18; (with_reducible refine (td _ _ (by with_reducible assumption) (by with_reducible assumption)).mono ?_); rintro e W2 ⟨rfl, hN⟩)
        | (go_at_call 18; (with_reducible refine (ts _ _ _ (by with_reducible assumption) (by with_reducible assumption) (by with_reducible assumption)).mono ?_); rintro e W2 ⟨rfl, hN⟩)
        | (go_at_call 36; (with_reducible refine (tf _ (by with_reducible assumption)).mono ?_); rintro e W2 ⟨r1, rfl, hF1, _, hN⟩)
        | (go_at_call 37; (with_reducible refine (tg _ (by with_reducible assumption)).mono ?_); rintro e W2 ⟨r2, rfl, hF2, hcF, hN⟩; have hF1 := hF1.later hcF)
        | (go_at_call 38; (with_reducible refine (tb _ (by with_reducible assumption)).mono ?_); rintro e W2 ⟨rfl, hN⟩)
        | (go_at_call 39; (with_reducible refine (tc _ (by with_reducible assumption)).mono ?_); rintro e W2 ⟨r3, rfl, hF3, hN⟩))
    have nb2 := hN.below
    have R39 := below_step q39 nb2
    have Q10 := Q10.later nb2
    have Q16 := Q16.later nb2
    have B10 := blk_below B10 nb2
    have s2 := nb2.size
    have s1 := nb.size
    have z3a : (W3.alloc (.cells #[.bool a.f0, .string a.f1, .slice A5 a.f2.length c5] 25)).heap.size = W3.heap.size + 1 := by simp
    have z7a : ((W7.alloc (.cells #[.bool dx.f0, .string dx.f1, .slice A13 dx.f2.length c13] 25)).alloc (.cells #[.bool dy.f0, .string dy.f1, .slice A14 dy.f2.length c14] 25)).heap.size = W7.heap.size + 2 := by simp
    have hsp1 := spoil_calls (szL a.f2) a.f2 a.f0 a.f1 _ _ W2 (Nat.le_refl _) (WS_of_WT Q16)
    obtain ⟨x0, x1, x2, x3, x4, x5, m0, m1, m2, n0, n1, n2, o0, o1, o2, p0, p1, p2, t0, t1, t2, _⟩ := id hN
    clear tx ty ta tf tg ts tb tc td ht hS10 hS10d P10 P11 P13 P14 P16 L6 L7 B11 B13 B14 B16 HQ10 HQ16 b39 q39 vA1 vB1 wA wB
    go_wp2_with (first
      | (go_at_call 18; refine (sameT a (by omega) (.agg #[.bool a.f0, .string a.f1, .slice A5 a.f2.length c5]) (.agg #[.bool a.f0, .string a.f1, .slice A a.f2.length c]) _ ⟨_, _, rfl, hl5, Kd.C_below C3a O14⟩ ⟨_, _, rfl, hc, Kd.C_below HA.out N14.below⟩).mono ?_; rintro e W15 ⟨rfl, hc15⟩)
      | (go_at_call 19; refine (spoil_calls (szL [a, a]) [a, a] false funN _ _ W13 (Nat.le_refl _) (WS_of_WT hT13)).mono ?_; rintro e W14 ⟨rfl, hS3⟩; have O14 := O13.trans (hS3.below (B := (W3.alloc (.cells #[.bool a.f0, .string a.f1, .slice A5 a.f2.length c5] 25)).heap.size) O13.size (fun k hk => by have := O12.size; omega)); have N14 := hS3a.step O14; obtain ⟨x0, x1, x2, x3, x4, x5, x6, x7, x8⟩ := id N14; obtain ⟨z0, z1, z2, _⟩ := box3s (blk_below B3a O14))
      | (go_at_call 36; refine (fun_calls a a A5 c5 A5 c5 W12 (Kd.C_below C3a O12) hl5 (Kd.C_below C3a O12) hl5 (by omega) (by omega)).mono ?_; rintro e W13 ⟨v13, rfl, hT13, hc13⟩; have O13 := below_step O12 hc13)
      | (go_at_call 19; refine (spoil_calls (szL dx.f2) dx.f2 dx.f0 dx.f1 _ _ W11 (Nat.le_refl _) (WS_of_WT Q10b)).mono ?_; rintro e W12 ⟨rfl, hS2⟩; have O12 := O11.trans (hS2.below (B := (W3.alloc (.cells #[.bool a.f0, .string a.f1, .slice A5 a.f2.length c5] 25)).heap.size) O11.size (fun k hk => by have := hk.1; omega)); obtain ⟨z0, z1, z2, _⟩ := box3s (blk_below B3a O12))
      | (go_at_call 19; refine hsp1.mono ?_; rintro e W11 ⟨rfl, hS1⟩; have O11 := R39.trans (hS1.below (B := (W3.alloc (.cells #[.bool a.f0, .string a.f1, .slice A5 a.f2.length c5] 25)).heap.size) R39.size (fun k hk => by have := hk.1; omega)); have K10 := (hS1.keep W6.heap.size (by omega) (fun hk => by have := hk.1; omega)).trans B10; have Q10b := Q10.step (w1 := W11) (fun k hk hkl => hS1.keep k hkl (fun h2 => by have e1 := hk.2; have e2 := h2.1; omega)); obtain ⟨m0, m1, m2, _⟩ := box3s K10))
    go_ret
    exact ⟨rfl, below_step N14.below hc15⟩
end Go.Proofs.Ytgnklkmifcmlhaa.Q
