/- Proved here: parts of the proof of a given statement (HRowTermsOrder): contracts of the functions that it reaches, what they answer, and in the last text the statement itself. Conditions: those that each theorem names. -/
import Derived.Test.YtecplbgdalchdaaZTOX9
import Derived.Test.YtecplbgdalchdaaZTOX12
import Derived.Deep.RegionHeld3
import Derived.Deep.Cut
/- Proved here: the contracts of terms.Compare and Same. Conditions: those that each theorem names. -/
namespace Go.Proofs.Ytecplbgdalchdaa.Q
open Go.RowKit Go.Shelf Go.Proofs.YtecplbgdalchdaaW.PrintWords Go.Proofs.YtecplbgdalchdaaW.PrintMore
set_option linter.unusedVariables false
set_option linter.unusedSimpArgs false
attribute [local go_sem] Oper.semAt_some

theorem lx_0 (b : Int) : lx 0 b = b := rfl
theorem lx_ne {a : Int} (h : a ≠ 0) (b : Int) : lx a b = a := if_pos h
def CmpMOk (x y : S27) : Prop := ∀ (A : Option Addr) (c : Nat) (B : Option Addr) (d : Nat) (A' : Option Addr) (c' : Nat) (B' : Option Addr) (d' : Nat) (w : World), RdM w x A c B d → RdM w y A' c' B' d' →
    Calls Try.prog 17 #[.agg #[.int .u8 x.f0, .string x.f1, .bool x.f2.f0, .string x.f2.f1, .slice A x.f2.f2.length c, .int .i64 x.f3, .slice B x.f4.length d], .agg #[.int .u8 y.f0, .string y.f1, .bool y.f2.f0, .string y.f2.f1, .slice A' y.f2.f2.length c', .int .i64 y.f3, .slice B' y.f4.length d']] w fun e w' => e = .returned (.int .i64 (cmpM x y)) ∧ Below w.heap.size w w'
set_option maxHeartbeats 2000000 in
set_option maxRecDepth 100000 in
theorem compareFuncM_calls (l m : List S27) (hok : ∀ x y, x ∈ l → CmpMOk x y) (A : Option Addr) (c : Nat) (B : Option Addr) (d : Nat) (w : World) (hA : k27.C w A l.length l) (hB : k27.C w B m.length m) :
    Calls Try.prog 96 #[.slice A l.length c, .slice B m.length d, .func (.func 17) #[] #[]] w fun e w' => e = .returned (.int .i64 (cmpML l m)) ∧ Below w.heap.size w w' := by
  have hm : l.length ≤ 9223372036854775807 := hA.2.1
  have hm2 : m.length ≤ 9223372036854775807 := hB.2.1
  have HA := Aside0.mk hA
  have HB := Aside0.mk hB
  have HO := Aside0.mk hok
  clear hA hB hok
  go_enter Try.func96, Try.ntmps96
  go_wp2
  go_loopg [7, 8, 9, 10, 13] l.length (fun gg _ _ _ _ s13 wr => ∃ kk : Nat, kk ≤ l.length ∧ l.length - kk ≤ gg ∧ s13 = .int .i64 kk ∧ kk ≤ m.length ∧ Aside0 (Below w.heap.size w wr) ∧ Aside0 (cmpML l m = cmpML (l.drop kk) (m.drop kk)))
  case atStart => exact ⟨0, Nat.zero_le _, by omega, rfl, Nat.zero_le _, ⟨Below.refl _ w⟩, ⟨rfl⟩⟩
  case round =>
    obtain ⟨kk, hkk, hg, rfl, hkm, HW, HC⟩ := hrel
    by_cases hlt : kk < l.length
    · have hltz : (kk : Int) < (l.length : Int) := by omega
      obtain ⟨ad, A2, c2, A3, c3, e1, hx0, hx1, hx2, hx3, hx4, hx5, hx6, hl2, hi2, hl3, hi3⟩ := at_T27 (Kd.C_below HA.out HW.out) (kk : Int) (by omega) hltz
      cases e1
      simp only [Int.toNat_natCast] at hx0 hx1 hx2 hx3 hx4 hx5 hx6
      have hmem : l.getD kk z27 ∈ l := getD_mem l z27 kk hlt
      have hX : rd_T27 l kk = l.getD kk z27 := rfl
      by_cases hlm : kk < m.length
      · have hlmz : (kk : Int) < (m.length : Int) := by omega
        have hge : decide (m.length ≤ kk) = false := by simp; omega
        obtain ⟨bd, B2, d2, B3, d3, e1, hy0, hy1, hy2, hy3, hy4, hy5, hy6, hl2', hi2', hl3', hi3'⟩ := at_T27 (Kd.C_below HB.out HW.out) (kk : Int) (by omega) hlmz
        cases e1
        simp only [Int.toNat_natCast] at hy0 hy1 hy2 hy3 hy4 hy5 hy6
        have hY : rd_T27 m kk = m.getD kk z27 := rfl
        have hC := HC.out
        rw [drop_tm l kk hlt, drop_tm m kk hlm, cmpML_lx] at hC
        rw [← hX] at hmem
        have hok := HO.out _ (rd_T27 m kk) hmem
        clear hX hY hmem HC
        generalize rd_T27 l kk = x at *
        generalize rd_T27 m kk = y at *
        have HC := Aside0.mk hC
        have hcall := fun W (hw : Below wr.heap.size wr W) => hok A2 c2 A3 c3 B2 d2 B3 d3 W ⟨⟨Kd.C_below hi2 hw, hl2⟩, Kd.C_below hi3 hw, hl3⟩ ⟨⟨Kd.C_below hi2' hw, hl2'⟩, Kd.C_below hi3' hw, hl3'⟩
        clear hC hok hl2 hi2 hl2' hi2' hl3 hi3 hl3' hi3'
        have ax := World.block_lt_of_cell? wr _ hx0
        have ay := World.block_lt_of_cell? wr _ hy0
        generalize cmpM x y = r at *
        by_cases hr : r = 0
        · have hr1 : (r != 0) = false := bne_eq_false_iff_eq.mpr hr
          have HR := Lib.hid hr
          clear hr
          go_wp2_with (go_at_call 17; refine (hcall _ (below_two _ _)).mono ?_; rintro e w' ⟨rfl, hb'⟩)
          go_roundg (l.length - (kk + 1))
          case measure => omega
          case rel =>
            have hC := HC.out
            rw [lx, if_neg (by rw [HR.out]; simp)] at hC
            exact ⟨kk + 1, by omega, by omega, by go_num, by omega, ⟨HW.out.trans ((below_step (below_two _ _) hb').mono HW.out.size)⟩, ⟨hC⟩⟩
        · have hr1 : (r != 0) = true := bne_iff_ne.mpr hr
          go_wp2_with (go_at_call 17; refine (hcall _ (below_two _ _)).mono ?_; rintro e w' ⟨rfl, hb'⟩)
          go_ret
          have hC := HC.out
          rw [lx, if_pos hr] at hC
          exact ⟨by rw [hC]; rfl, HW.out.trans ((below_step (below_two _ _) hb').mono HW.out.size)⟩
      · have hge : decide (m.length ≤ kk) = true := by simp; omega
        have hC := HC.out
        rw [drop_tm l kk hlt, List.drop_of_length_le (show m.length ≤ kk by omega)] at hC
        simp only [cmpML] at hC
        have HC := Aside0.mk hC
        clear hC hX hmem hl2 hi2 hl3 hi3
        go_wp2
        go_ret
        exact ⟨by rw [HC.out]; rfl, HW.out.trans ((below_one _).mono HW.out.size)⟩
    · have hltz : ¬ (kk : Int) < (l.length : Int) := by omega
      have hC := HC.out
      rw [List.drop_of_length_le (show l.length ≤ kk by omega)] at hC
      by_cases hlm : l.length < m.length
      · have hd : decide (l.length < m.length) = true := by simp; omega
        rw [drop_tm m kk (by omega)] at hC
        simp only [cmpML] at hC
        have HC := Aside0.mk hC
        clear hC
        go_wp2
        go_ret
        exact ⟨by rw [HC.out]; rfl, HW.out⟩
      · have hd : decide (l.length < m.length) = false := by simp; omega
        rw [List.drop_of_length_le (show m.length ≤ kk by omega)] at hC
        simp only [cmpML] at hC
        have HC := Aside0.mk hC
        clear hC
        go_wp2
        go_ret
        exact ⟨by rw [HC.out]; rfl, HW.out⟩
/-- The two boxes of Compare's arguments. -/
abbrev TwoM (w : World) (x y : S27) (A : Option Addr) (c : Nat) (B : Option Addr) (d : Nat) (A' : Option Addr) (c' : Nat) (B' : Option Addr) (d' : Nat) (W : World) : Prop :=
  W.cell? ⟨w.heap.size, 0, none⟩ = some (.int .u8 x.f0) ∧ W.cell? ⟨w.heap.size, 1, none⟩ = some (.string x.f1) ∧ W.cell? ⟨w.heap.size, 2, none⟩ = some (.bool x.f2.f0) ∧ W.cell? ⟨w.heap.size, 3, none⟩ = some (.string x.f2.f1) ∧ W.cell? ⟨w.heap.size, 4, none⟩ = some (.slice A x.f2.f2.length c) ∧ W.cell? ⟨w.heap.size, 5, none⟩ = some (.int .i64 x.f3) ∧ W.cell? ⟨w.heap.size, 6, none⟩ = some (.slice B x.f4.length d) ∧ W.cell? ⟨w.heap.size + 1, 0, none⟩ = some (.int .u8 y.f0) ∧ W.cell? ⟨w.heap.size + 1, 1, none⟩ = some (.string y.f1) ∧ W.cell? ⟨w.heap.size + 1, 2, none⟩ = some (.bool y.f2.f0) ∧ W.cell? ⟨w.heap.size + 1, 3, none⟩ = some (.string y.f2.f1) ∧ W.cell? ⟨w.heap.size + 1, 4, none⟩ = some (.slice A' y.f2.f2.length c') ∧ W.cell? ⟨w.heap.size + 1, 5, none⟩ = some (.int .i64 y.f3) ∧ W.cell? ⟨w.heap.size + 1, 6, none⟩ = some (.slice B' y.f4.length d') ∧ Below w.heap.size w W
theorem TwoM.step {w : World} {x y : S27} {A B A' B' : Option Addr} {c d c' d' : Nat} {W W' : World} (h : TwoM w x y A c B d A' c' B' d' W) (hb : Below W.heap.size W W') : TwoM w x y A c B d A' c' B' d' W' := by
  obtain ⟨h0, h1, h2, h3, h4, h5, h6, g0, g1, g2, g3, g4, g5, g6, g7⟩ := h
  exact ⟨pw_cell_below hb h0, pw_cell_below hb h1, pw_cell_below hb h2, pw_cell_below hb h3, pw_cell_below hb h4, pw_cell_below hb h5, pw_cell_below hb h6, pw_cell_below hb g0, pw_cell_below hb g1, pw_cell_below hb g2, pw_cell_below hb g3, pw_cell_below hb g4, pw_cell_below hb g5, pw_cell_below hb g6, below_step g7 hb⟩
theorem TwoM.below {w : World} {x y : S27} {A B A' B' : Option Addr} {c d c' d' : Nat} {W : World} (h : TwoM w x y A c B d A' c' B' d' W) : Below w.heap.size w W := h.2.2.2.2.2.2.2.2.2.2.2.2.2.2
theorem TwoM.start (w : World) (x y : S27) (A : Option Addr) (c : Nat) (B : Option Addr) (d : Nat) (A' : Option Addr) (c' : Nat) (B' : Option Addr) (d' : Nat) : TwoM w x y A c B d A' c' B' d' ((w.alloc (.cells #[.int .u8 x.f0, .string x.f1, .bool x.f2.f0, .string x.f2.f1, .slice A x.f2.f2.length c, .int .i64 x.f3, .slice B x.f4.length d] 27)).alloc (.cells #[.int .u8 y.f0, .string y.f1, .bool y.f2.f0, .string y.f2.f1, .slice A' y.f2.f2.length c', .int .i64 y.f3, .slice B' y.f4.length d'] 27)) := by
  have h := two_new w (.cells #[.int .u8 x.f0, .string x.f1, .bool x.f2.f0, .string x.f2.f1, .slice A x.f2.f2.length c, .int .i64 x.f3, .slice B x.f4.length d] 27) (.cells #[.int .u8 y.f0, .string y.f1, .bool y.f2.f0, .string y.f2.f1, .slice A' y.f2.f2.length c', .int .i64 y.f3, .slice B' y.f4.length d'] 27)
  obtain ⟨x0, x1, x2, x3, x4, x5, x6⟩ := box7 h.2.1
  obtain ⟨y0, y1, y2, y3, y4, y5, y6⟩ := box7 h.2.2
  exact ⟨x0, x1, x2, x3, x4, x5, x6, y0, y1, y2, y3, y4, y5, y6, h.1⟩
theorem cmp_Compare8_f (a b : Int) : cmp_Compare_uint8.f a b = some (cmpI a b) := by
  simp only [cmp_Compare_uint8.f, cmp_isNaN_uint8.f, cmpI]
  split <;> simp_all <;> split <;> simp_all
set_option maxHeartbeats 4000000 in
set_option maxRecDepth 100000 in
theorem compareM_step (x y : S27) (hok : ∀ a b, a ∈ x.f4 → CmpMOk a b) : CmpMOk x y := by
  intro A c B d A' c' B' d' w hX hY
  have hS0 := TwoM.start w x y A c B d A' c' B' d'
  have e8 := fun a b W (hw : TwoM w x y A c B d A' c' B' d' W) => (cmp_Compare_uint8.calls a b _ W (cmp_Compare8_f a b)).mono (fun _ _ h => And.intro h.1 (hw.step h.2.below))
  have ei := fun a b W (hw : TwoM w x y A c B d A' c' B' d' W) => (cmp_Compare_int.calls a b _ W (cmp_Compare_f a b)).mono (fun _ _ h => And.intro h.1 (hw.step h.2.below))
  have es := fun a b W (hw : TwoM w x y A c B d A' c' B' d' W) => (compare_calls a b W).mono (fun _ W' h => And.intro h.1 (show TwoM w x y A c B d A' c' B' d' W' by rw [h.2]; exact hw))
  have et := fun W (hw : TwoM w x y A c B d A' c' B' d' W) => (cmp_tr x.f2 y.f2 _ _ W (hX.later hw.below).ty (hY.later hw.below).ty).mono (fun _ _ h => And.intro h.1 (hw.step h.2))
  have eo := fun a b c2 W (hw : TwoM w x y A c B d A' c' B' d' W) => (orCall a b c2 (W.alloc (.cells #[.int .i64 a, .int .i64 b, .int .i64 c2] 3)) W.heap.size (blk_new W _)).mono (fun _ _ h => And.intro h.1 ((hw.step (below_one _)).step h.2.below))
  have ef := fun W (hw : TwoM w x y A c B d A' c' B' d' W) => (compareFuncM_calls x.f4 y.f4 hok B d B' d' W (hX.later hw.below).2.1 (hY.later hw.below).2.1).mono (fun _ _ h => And.intro h.1 (hw.step h.2))
  have HE := Lib.hid (cmpM_lx x y)
  unfold headM at HE
  clear hX hY hok
  obtain ⟨x0, x1, x2, x3, x4, x5, x6, y0, y1, y2, y3, y4, y5, y6, hb⟩ := id hS0
  have HN : nameC x.f0 x.f1 y.f1 = if x.f0 = 5 then 0 else Lib.compareBytes x.f1.data.toList y.f1.data.toList := rfl
  rw [HN] at HE
  clear HN
  generalize hr0 : cmpI x.f0 y.f0 = r0 at *
  generalize hsc : Lib.compareBytes x.f1.data.toList y.f1.data.toList = sc at *
  have e8' := e8 x.f0 y.f0
  have es' := es x.f1 y.f1
  rw [hr0] at e8'
  rw [hsc] at es'
  have hor : or3 (cmpT x.f2 y.f2) (cmpI x.f3 y.f3) (cmpI (x.f4.length : Int) (y.f4.length : Int)) = or3 (cmpT x.f2 y.f2) (cmpI x.f3 y.f3) (cmpI (x.f4.length : Int) (y.f4.length : Int)) := rfl
  clear e8 es hr0 hsc hor
  by_cases hr : r0 = 0
  · have hr1 : (r0 != 0) = false := bne_eq_false_iff_eq.mpr hr
    have HR := Lib.hid hr
    clear hr
    by_cases hc : sc ≠ 0 ∧ x.f0 ≠ 5
    · have h1 : (sc != 0) = true := bne_iff_ne.mpr hc.1
      have h2 : (x.f0 != 5) = true := bne_iff_ne.mpr hc.2
      have HX : cmpM x y = sc := by rw [HE.out, HR.out, lx_0, if_neg hc.2, lx_ne hc.1, lx_ne hc.1]
      rw [HX]
      clear HE HX hc ei et eo ef
      go_enter Try.func17, Try.ntmps17
      go_wp2_with (first
        | (go_at_call 92; (with_reducible refine (es' _ hN).mono ?_); rintro e w2 ⟨rfl, hN2⟩; obtain ⟨x0, x1, x2, x3, x4, x5, x6, y0, y1, y2, y3, y4, y5, y6, hb⟩ := id hN2)
        | (go_at_call 91; (with_reducible refine (e8' _ hS0).mono ?_); rintro e w1 ⟨rfl, hN⟩; obtain ⟨x0, x1, x2, x3, x4, x5, x6, y0, y1, y2, y3, y4, y5, y6, hb⟩ := id hN))
      go_ret
      exact ⟨rfl, hN2.below⟩
    · have HX : cmpM x y = lx (or3 (cmpT x.f2 y.f2) (cmpI x.f3 y.f3) (cmpI (x.f4.length : Int) (y.f4.length : Int))) (cmpML x.f4 y.f4) := by
        have hz : (if x.f0 = 5 then (0 : Int) else sc) = 0 := by
          split
          · rfl
          · rename_i h5
            exact Decidable.byContradiction (fun h => hc ⟨h, h5⟩)
        rw [HE.out, hz, HR.out, lx_0, lx_0]
      have HX := Lib.hid HX
      have hc' : (sc != 0) = false ∨ ((sc != 0) = true ∧ (x.f0 != 5) = false) := by
        by_cases h1 : sc = 0
        · exact .inl (bne_eq_false_iff_eq.mpr h1)
        · exact .inr ⟨bne_iff_ne.mpr h1, bne_eq_false_iff_eq.mpr (Decidable.byContradiction (fun h => hc ⟨h1, h⟩))⟩
      clear hc HE
      rcases hc' with h1 | ⟨h1, h2⟩
      all_goals
        go_enter Try.func17, Try.ntmps17
        go_wp2_with (first
          | (go_at_call 92; (with_reducible refine (es' _ hN).mono ?_); rintro e w2 ⟨rfl, hN2⟩; obtain ⟨x0, x1, x2, x3, x4, x5, x6, y0, y1, y2, y3, y4, y5, y6, hb⟩ := id hN2)
          | (go_at_call 91; (with_reducible refine (e8' _ hS0).mono ?_); rintro e w1 ⟨rfl, hN⟩; obtain ⟨x0, x1, x2, x3, x4, x5, x6, y0, y1, y2, y3, y4, y5, y6, hb⟩ := id hN))
        have hK0 := hN2.step (below_drew1 (Below.refl w2.heap.size w2))
        clear hS0 hN hN2 e8' es' x0 x1 x2 x3 x4 x5 x6 y0 y1 y2 y3 y4 y5 y6 hb
        go_region_held3 (fun W => TwoM w x y A c B d A' c' B' d' W)
          (first | (with_reducible exact hK0) | (with_reducible assumption) | (with_reducible exact TwoM.step (by with_reducible assumption) (below_one _)))
          (first
            | (go_at_call 94; (with_reducible refine (et _ (by with_reducible assumption)).mono ?_); rintro e w3 ⟨rfl, hN⟩)
            | (go_at_call 95; (with_reducible refine (ei _ _ _ (by with_reducible assumption)).mono ?_); rintro e w3 ⟨rfl, hN⟩)
            | (go_at_call 93; (with_reducible refine (eo _ _ _ _ (by with_reducible assumption)).mono ?_); rintro e w3 ⟨rfl, hN⟩))
        all_goals
          generalize or3 (cmpT x.f2 y.f2) (cmpI x.f3 y.f3) (cmpI (x.f4.length : Int) (y.f4.length : Int)) = r7 at *
          obtain ⟨x0, x1, x2, x3, x4, x5, x6, y0, y1, y2, y3, y4, y5, y6, hb⟩ := id hN
          by_cases h7 : r7 = 0
          · have h71 : (r7 != 0) = false := bne_eq_false_iff_eq.mpr h7
            have H7 := Lib.hid h7
            clear h7
            go_wp2_with (go_at_call 96; (with_reducible refine (ef _ hN).mono ?_); rintro e w4 ⟨rfl, hN4⟩)
            go_ret
            exact ⟨by rw [HX.out, H7.out, lx_0] <;> rfl, hN4.below⟩
          · have h71 : (r7 != 0) = true := bne_iff_ne.mpr h7
            have H7 := Lib.hid h7
            clear h7
            go_wp2_with fail
            go_ret
            exact ⟨by rw [HX.out, lx_ne H7.out] <;> rfl, hN.below⟩
  · have hr1 : (r0 != 0) = true := bne_iff_ne.mpr hr
    have HX : cmpM x y = r0 := by rw [HE.out, lx_ne hr, lx_ne hr]
    rw [HX]
    clear HE HX hr ei et eo ef
    go_enter Try.func17, Try.ntmps17
    go_wp2_with (go_at_call 91; (with_reducible refine (e8' _ hS0).mono ?_); rintro e w1 ⟨rfl, hN⟩)
    go_ret
    exact ⟨rfl, hN.below⟩
theorem compareM_ok : ∀ (n : Nat) (x y : S27), szM x ≤ n → CmpMOk x y
  | 0, x, _, h => by have := szM_pos x; omega
  | n + 1, x, y, h => compareM_step x y (fun a b ha => compareM_ok n a b (by have := szM_sub ha; omega))
set_option maxHeartbeats 1000000 in
set_option maxRecDepth 100000 in
theorem sameM_tr (x y : S27) (a b : Value) (w : World) (ha : TrM w a x) (hb : TrM w b y) : Calls Try.prog 18 #[a, b] w fun e w' => e = .returned (.bool (cmpM x y == 0)) ∧ Below w.heap.size w w' := by
  obtain ⟨A, c, B, d, rfl, hx⟩ := ha
  obtain ⟨A', c', B', d', rfl, hy⟩ := hb
  have hS0 := TwoM.start w x y A c B d A' c' B' d'
  obtain ⟨x0, x1, x2, x3, x4, x5, x6, y0, y1, y2, y3, y4, y5, y6, hb⟩ := id hS0
  have hc := compareM_ok _ x y (Nat.le_refl _) A c B d A' c' B' d' _ (hx.later hb) (hy.later hb)
  clear hS0
  go_enter Try.func18, Try.ntmps18
  go_wp2_with (go_at_call 17; (with_reducible refine hc.mono ?_); rintro e w1 ⟨rfl, hb1⟩)
  go_ret
  exact ⟨rfl, below_step hb hb1⟩
end Go.Proofs.Ytecplbgdalchdaa.Q
