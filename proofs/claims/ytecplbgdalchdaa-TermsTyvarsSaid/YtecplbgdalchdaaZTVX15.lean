/- Proved here: parts of the proof of a given statement (HRowTermsTyvars): contracts of the functions that it reaches, what they answer, and in the last text the statement itself. Conditions: those that each theorem names. -/
import Derived.Test.YtecplbgdalchdaaZTVX9
import Derived.Test.YtecplbgdalchdaaZTVX11
import Derived.Deep.RegionHeld3
import Derived.Deep.Cut
import Derived.Test.YtecplbgdalchdaaZTVX6
import Derived.Test.YtecplbgdalchdaaZTVX7
import Derived.Test.YtecplbgdalchdaaZTVX3
/- Proved here: the contracts of terms.Compare and Same. Conditions: those that each theorem names. -/
namespace Go.Proofs.Ytecplbgdalchdaa.Q
open Go.RowKit Go.Shelf Go.Proofs.YtecplbgdalchdaaW.PrintWords Go.Proofs.YtecplbgdalchdaaW.PrintMore
set_option linter.unusedVariables false
set_option linter.unusedSimpArgs false
attribute [local go_sem] Oper.semAt_some

theorem lx_0 (b : Int) : lx 0 b = b := rfl
theorem lx_ne {a : Int} (h : a ≠ 0) (b : Int) : lx a b = a := if_pos h
def CmpMOk (x y : S27) : Prop := ∀ (A : Option Addr) (c : Nat) (B : Option Addr) (d : Nat) (A' : Option Addr) (c' : Nat) (B' : Option Addr) (d' : Nat) (w : World), RdM w x A c B d → RdM w y A' c' B' d' →
    Calls Try.prog 17 #[.agg #[.int .u8 x.f0, .string x.f1, .bool x.f2.f0, .string x.f2.f1, .slice A x.f2.f2.length c, .int .i64 x.f3, .slice B x.f4.length d], .agg #[.int .u8 y.f0, .string y.f1, .bool y.f2.f0, .string y.f2.f1, .slice A' y.f2.f2.length c', .int .i64 y.f3, .slice B' y.f4.length d']] w fun e w' => e = .returned (.int .i64 (cmpM x y)) ∧ Below w.heap.size w w'
set_option maxHeartbeats 2000000 in
set_option maxRecDepth 100000 in
theorem compareFuncM_calls (l m : List S27) (hok : ∀ x y, x ∈ l → CmpMOk x y) (A : Option Addr) (c : Nat) (B : Option Addr) (d : Nat) (w : World) (hA : k27.C w A l.length l) (hB : k27.C w B m.length m) :
    Calls Try.prog 96 #[.slice A l.length c, .slice B m.length d, .func (.func 17) #[] #[]] w fun e w' => e = .returned (.int .i64 (cmpML l m)) ∧ Below w.heap.size w w' := by
  have hm : l.length ≤ 9223372036854775807 := hA.2.1
  have hm2 : m.length ≤ 9223372036854775807 := hB.2.1
  have HA := Aside0.mk hA
  have HB := Aside0.mk hB
  have HO := Aside0.mk hok
  clear hA hB hok
  go_enter Try.func96, Try.ntmps96
  go_wp2
  go_loopg [7, 8, 9, 10, 13] l.length (fun gg _ _ _ _ s13 wr => ∃ kk : Nat, kk ≤ l.length ∧ l.length - kk ≤ gg ∧ s13 = .int .i64 kk ∧ kk ≤ m.length ∧ Aside0 (Below w.heap.size w wr) ∧ Aside0 (cmpML l m = cmpML (l.drop kk) (m.drop kk)))
  case atStart => exact ⟨0, Nat.zero_le _, by omega, rfl, Nat.zero_le _, ⟨Below.refl _ w⟩, ⟨rfl⟩⟩
  case round =>
    obtain ⟨kk, hkk, hg, rfl, hkm, HW, HC⟩ := hrel
    by_cases hlt : kk < l.length
    · have hltz : (kk : Int) < (l.length : Int) := by omega
      obtain ⟨ad, A2, c2, A3, c3, e1, hx0, hx1, hx2, hx3, hx4, hx5, hx6, hl2, hi2, hl3, hi3⟩ := at_T27 (Kd.C_below HA.out HW.out) (kk : Int) (by omega) hltz
      cases e1
      simp only [Int.toNat_natCast] at hx0 hx1 hx2 hx3 hx4 hx5 hx6
      have hmem : l.getD kk z27 ∈ l := getD_mem l z27 kk hlt
      have hX : rd_T27 l kk = l.getD kk z27 := rfl
      by_cases hlm : kk < m.length
      · have hlmz : (kk : Int) < (m.length : Int) := by omega
        have hge : decide (m.length ≤ kk) = false := by simp; omega
        obtain ⟨bd, B2, d2, B3, d3, e1, hy0, hy1, hy2, hy3, hy4, hy5, hy6, hl2', hi2', hl3', hi3'⟩ := at_T27 (Kd.C_below HB.out HW.out) (kk : Int) (by omega) hlmz
        cases e1
        simp only [Int.toNat_natCast] at hy0 hy1 hy2 hy3 hy4 hy5 hy6
        have hY : rd_T27 m kk = m.getD kk z27 := rfl
        have hC := HC.out
        rw [drop_tm l kk hlt, drop_tm m kk hlm, cmpML_lx] at hC
        rw [← hX] at hmem
        have hok := HO.out _ (rd_T27 m kk) hmem
        clear hX hY hmem HC
        generalize rd_T27 l kk = x at *
        generalize rd_T27 m kk = y at *
        have HC := Aside0.mk hC
        have hcall := fun W (hw : Below wr.heap.size wr W) => hok A2 c2 A3 c3 B2 d2 B3 d3 W ⟨⟨Kd.C_below hi2 hw, hl2⟩, Kd.C_below hi3 hw, hl3⟩ ⟨⟨Kd.C_below hi2' hw, hl2'⟩, Kd.C_below hi3' hw, hl3'⟩
        clear hC hok hl2 hi2 hl2' hi2' hl3 hi3 hl3' hi3'
        have ax := World.block_lt_of_cell? wr _ hx0
        have ay := World.block_lt_of_cell? wr _ hy0
        generalize cmpM x y = r at *
        by_cases hr : r = 0
        · have hr1 : (r != 0) = false := bne_eq_false_iff_eq.mpr hr
          have HR := Lib.hid hr
          clear hr
          go_wp2_with (go_at_call 17; refine (hcall _ (below_two _ _)).mono ?_; rintro e w' ⟨rfl, hb'⟩)
          go_roundg (l.length - (kk + 1))
          case measure => omega
          case rel =>
            have hC := HC.out
            rw [lx, if_neg (by rw [HR.out]; simp)] at hC
            exact ⟨kk + 1, by omega, by omega, by go_num, by omega, ⟨HW.out.trans ((below_step (below_two _ _) hb').mono HW.out.size)⟩, ⟨hC⟩⟩
        · have hr1 : (r != 0) = true := bne_iff_ne.mpr hr
          go_wp2_with (go_at_call 17; refine (hcall _ (below_two _ _)).mono ?_; rintro e w' ⟨rfl, hb'⟩)
          go_ret
          have hC := HC.out
          rw [lx, if_pos hr] at hC
          exact ⟨by rw [hC]; rfl, HW.out.trans ((below_step (below_two _ _) hb').mono HW.out.size)⟩
      · have hge : decide (m.length ≤ kk) = true := by simp; omega
        have hC := HC.out
        rw [drop_tm l kk hlt, List.drop_of_length_le (show m.length ≤ kk by omega)] at hC
        simp only [cmpML] at hC
        have HC := Aside0.mk hC
        clear hC hX hmem hl2 hi2 hl3 hi3
        go_wp2
        go_ret
        exact ⟨by rw [HC.out]; rfl, HW.out.trans ((below_one _).mono HW.out.size)⟩
    · have hltz : ¬ (kk : Int) < (l.length : Int) := by omega
      have hC := HC.out
      rw [List.drop_of_length_le (show l.length ≤ kk by omega)] at hC
      by_cases hlm : l.length < m.length
      · have hd : decide (l.length < m.length) = true := by simp; omega
        rw [drop_tm m kk (by omega)] at hC
        simp only [cmpML] at hC
        have HC := Aside0.mk hC
        clear hC
        go_wp2
        go_ret
        exact ⟨by rw [HC.out]; rfl, HW.out⟩
      · have hd : decide (l.length < m.length) = false := by simp; omega
        rw [List.drop_of_length_le (show m.length ≤ kk by omega)] at hC
        simp only [cmpML] at hC
        have HC := Aside0.mk hC
        clear hC
        go_wp2
        go_ret
        exact ⟨by rw [HC.out]; rfl, HW.out⟩
/-- The two boxes of Compare's arguments. -/
abbrev TwoM (w : World) (x y : S27) (A : Option Addr) (c : Nat) (B : Option Addr) (d : Nat) (A' : Option Addr) (c' : Nat) (B' : Option Addr) (d' : Nat) (W : World) : Prop :=
  W.cell? ⟨w.heap.size, 0, none⟩ = some (.int .u8 x.f0) ∧ W.cell? ⟨w.heap.size, 1, none⟩ = some (.string x.f1) ∧ W.cell? ⟨w.heap.size, 2, none⟩ = some (.bool x.f2.f0) ∧ W.cell? ⟨w.heap.size, 3, none⟩ = some (.string x.f2.f1) ∧ W.cell? ⟨w.heap.size, 4, none⟩ = some (.slice A x.f2.f2.length c) ∧ W.cell? ⟨w.heap.size, 5, none⟩ = some (.int .i64 x.f3) ∧ W.cell? ⟨w.heap.size, 6, none⟩ = some (.slice B x.f4.length d) ∧ W.cell? ⟨w.heap.size + 1, 0, none⟩ = some (.int .u8 y.f0) ∧ W.cell? ⟨w.heap.size + 1, 1, none⟩ = some (.string y.f1) ∧ W.cell? ⟨w.heap.size + 1, 2, none⟩ = some (.bool y.f2.f0) ∧ W.cell? ⟨w.heap.size + 1, 3, none⟩ = some (.string y.f2.f1) ∧ W.cell? ⟨w.heap.size + 1, 4, none⟩ = some (.slice A' y.f2.f2.length c') ∧ W.cell? ⟨w.heap.size + 1, 5, none⟩ = some (.int .i64 y.f3) ∧ W.cell? ⟨w.heap.size + 1, 6, none⟩ = some (.slice B' y.f4.length d') ∧ Below w.heap.size w W
theorem TwoM.step {w : World} {x y : S27} {A B A' B' : Option Addr} {c d c' d' : Nat} {W W' : World} (h : TwoM w x y A c B d A' c' B' d' W) (hb : Below W.heap.size W W') : TwoM w x y A c B d A' c' B' d' W' := by
  obtain ⟨h0, h1, h2, h3, h4, h5, h6, g0, g1, g2, g3, g4, g5, g6, g7⟩ := h
  exact ⟨pw_cell_below hb h0, pw_cell_below hb h1, pw_cell_below hb h2, pw_cell_below hb h3, pw_cell_below hb h4, pw_cell_below hb h5, pw_cell_below hb h6, pw_cell_below hb g0, pw_cell_below hb g1, pw_cell_below hb g2, pw_cell_below hb g3, pw_cell_below hb g4, pw_cell_below hb g5, pw_cell_below hb g6, below_step g7 hb⟩
theorem TwoM.below {w : World} {x y : S27} {A B A' B' : Option Addr} {c d c' d' : Nat} {W : World} (h : TwoM w x y A c B d A' c' B' d' W) : Below w.heap.size w W := h.2.2.2.2.2.2.2.2.2.2.2.2.2.2
theorem TwoM.start (w : World) (x y : S27) (A : Option Addr) (c : Nat) (B : Option Addr) (d : Nat) (A' : Option Addr) (c' : Nat) (B' : Option Addr) (d' : Nat) : TwoM w x y A c B d A' c' B' d' ((w.alloc (.cells #[.int .u8 x.f0, .string x.f1, .bool x.f2.f0, .string x.f2.f1, .slice A x.f2.f2.length c, .int .i64 x.f3, .slice B x.f4.length d] 27)).alloc (.cells #[.int .u8 y.f0, .string y.f1, .bool y.f2.f0, .string y.f2.f1, .slice A' y.f2.f2.length c', .int .i64 y.f3, .slice B' y.f4.length d'] 27)) := by
  have h := two_new w (.cells #[.int .u8 x.f0, .string x.f1, .bool x.f2.f0, .string x.f2.f1, .slice A x.f2.f2.length c, .int .i64 x.f3, .slice B x.f4.length d] 27) (.cells #[.int .u8 y.f0, .string y.f1, .bool y.f2.f0, .string y.f2.f1, .slice A' y.f2.f2.length c', .int .i64 y.f3, .slice B' y.f4.length d'] 27)
  obtain ⟨x0, x1, x2, x3, x4, x5, x6⟩ := box7 h.2.1
  obtain ⟨y0, y1, y2, y3, y4, y5, y6⟩ := box7 h.2.2
  exact ⟨x0, x1, x2, x3, x4, x5, x6, y0, y1, y2, y3, y4, y5, y6, h.1⟩
theorem cmp_Compare8_f (a b : Int) : cmp_Compare_uint8.f a b = some (cmpI a b) := by
  simp only [cmp_Compare_uint8.f, cmp_isNaN_uint8.f, cmpI]
  split <;> simp_all <;> split <;> simp_all
set_option maxHeartbeats 4000000 in
set_option maxRecDepth 100000 in
theorem compareM_step (x y : S27) (hok : ∀ a b, a ∈ x.f4 → CmpMOk a b) : CmpMOk x y := by
  intro A c B d A' c' B' d' w hX hY
  have hS0 := TwoM.start w x y A c B d A' c' B' d'
  have e8 := fun a b W (hw : TwoM w x y A c B d A' c' B' d' W) => (cmp_Compare_uint8.calls a b _ W (cmp_Compare8_f a b)).mono (fun _ _ h => And.intro h.1 (hw.step h.2.below))
  have ei := fun a b W (hw : TwoM w x y A c B d A' c' B' d' W) => (cmp_Compare_int.calls a b _ W (cmp_Compare_f a b)).mono (fun _ _ h => And.intro h.1 (hw.step h.2.below))
  have es := fun a b W (hw : TwoM w x y A c B d A' c' B' d' W) => (compare_calls a b W).mono (fun _ W' h => And.intro h.1 (show TwoM w x y A c B d A' c' B' d' W' by rw [h.2]; exact hw))
  have et := fun W (hw : TwoM w x y A c B d A' c' B' d' W) => (cmp_tr x.f2 y.f2 _ _ W (hX.later hw.below).ty (hY.later hw.below).ty).mono (fun _ _ h => And.intro h.1 (hw.step h.2))
  have eo := fun a b c2 W (hw : TwoM w x y A c B d A' c' B' d' W) => (orCall a b c2 (W.alloc (.cells #[.int .i64 a, .int .i64 b, .int .i64 c2] 3)) W.heap.size (blk_new W _)).mono (fun _ _ h => And.intro h.1 ((hw.step (below_one _)).step h.2.below))
  have ef := fun W (hw : TwoM w x y A c B d A' c' B' d' W) => (compareFuncM_calls x.f4 y.f4 hok B d B' d' W (hX.later hw.below).2.1 (hY.later hw.below).2.1).mono (fun _ _ h => And.intro h.1 (hw.step h.2))
  have HE := Lib.hid (cmpM_lx x y)
  unfold headM at HE
  clear hX hY hok
  obtain ⟨x0, x1, x2, x3, x4, x5, x6, y0, y1, y2, y3, y4, y5, y6, hb⟩ := id hS0
  have HN : nameC x.f0 x.f1 y.f1 = if x.f0 = 5 then 0 else Lib.compareBytes x.f1.data.toList y.f1.data.toList := rfl
  rw [HN] at HE
  clear HN
  generalize hr0 : cmpI x.f0 y.f0 = r0 at *
  generalize hsc : Lib.compareBytes x.f1.data.toList y.f1.data.toList = sc at *
  have e8' := e8 x.f0 y.f0
  have es' := es x.f1 y.f1
  rw [hr0] at e8'
  rw [hsc] at es'
  have hor : or3 (cmpT x.f2 y.f2) (cmpI x.f3 y.f3) (cmpI (x.f4.length : Int) (y.f4.length : Int)) = or3 (cmpT x.f2 y.f2) (cmpI x.f3 y.f3) (cmpI (x.f4.length : Int) (y.f4.length : Int)) := rfl
  clear e8 es hr0 hsc hor
  by_cases hr : r0 = 0
  · have hr1 : (r0 != 0) = false := bne_eq_false_iff_eq.mpr hr
    have HR := Lib.hid hr
    clear hr
    by_cases hc : sc ≠ 0 ∧ x.f0 ≠ 5
    · have h1 : (sc != 0) = true := bne_iff_ne.mpr hc.1
      have h2 : (x.f0 != 5) = true := bne_iff_ne.mpr hc.2
      have HX : cmpM x y = sc := by rw [HE.out, HR.out, lx_0, if_neg hc.2, lx_ne hc.1, lx_ne hc.1]
      rw [HX]
      clear HE HX hc ei et eo ef
      go_enter Try.func17, Try.ntmps17
      go_wp2_with (first
        | (go_at_call 92; (with_reducible refine (es' _ hN).mono ?_); rintro e w2 ⟨rfl, hN2⟩; obtain ⟨x0, x1, x2, x3, x4, x5, x6, y0, y1, y2, y3, y4, y5, y6, hb⟩ := id hN2)
        | (go_at_call 91; (with_reducible refine (e8' _ hS0).mono ?_); rintro e w1 ⟨rfl, hN⟩; obtain ⟨x0, x1, x2, x3, x4, x5, x6, y0, y1, y2, y3, y4, y5, y6, hb⟩ := id hN))
      go_ret
      exact ⟨rfl, hN2.below⟩
    · have HX : cmpM x y = lx (or3 (cmpT x.f2 y.f2) (cmpI x.f3 y.f3) (cmpI (x.f4.length : Int) (y.f4.length : Int))) (cmpML x.f4 y.f4) := by
        have hz : (if x.f0 = 5 then (0 : Int) else sc) = 0 := by
          split
          · rfl
          · rename_i h5
            exact Decidable.byContradiction (fun h => hc ⟨h, h5⟩)
        rw [HE.out, hz, HR.out, lx_0, lx_0]
      have HX := Lib.hid HX
      have hc' : (sc != 0) = false ∨ ((sc != 0) = true ∧ (x.f0 != 5) = false) := by
        by_cases h1 : sc = 0
        · exact .inl (bne_eq_false_iff_eq.mpr h1)
        · exact .inr ⟨bne_iff_ne.mpr h1, bne_eq_false_iff_eq.mpr (Decidable.byContradiction (fun h => hc ⟨h1, h⟩))⟩
      clear hc HE
      rcases hc' with h1 | ⟨h1, h2⟩
      all_goals
        go_enter Try.func17, Try.ntmps17
        go_wp2_with (first
          | (go_at_call 92; (with_reducible refine (es' _ hN).mono ?_); rintro e w2 ⟨rfl, hN2⟩; obtain ⟨x0, x1, x2, x3, x4, x5, x6, y0, y1, y2, y3, y4, y5, y6, hb⟩ := id hN2)
          | (go_at_call 91; (with_reducible refine (e8' _ hS0).mono ?_); rintro e w1 ⟨rfl, hN⟩; obtain ⟨x0, x1, x2, x3, x4, x5, x6, y0, y1, y2, y3, y4, y5, y6, hb⟩ := id hN))
        have hK0 := hN2.step (below_drew1 (Below.refl w2.heap.size w2))
        clear hS0 hN hN2 e8' es' x0 x1 x2 x3 x4 x5 x6 y0 y1 y2 y3 y4 y5 y6 hb
        go_region_held3 (fun W => TwoM w x y A c B d A' c' B' d' W)
          (first | (with_reducible exact hK0) | (with_reducible assumption) | (with_reducible exact TwoM.step (by with_reducible assumption) (below_one _)))
          (first
            | (go_at_call 94; (with_reducible refine (et _ (by with_reducible assumption)).mono ?_); rintro e w3 ⟨rfl, hN⟩)
            | (go_at_call 95; (with_reducible refine (ei _ _ _ (by with_reducible assumption)).mono ?_); rintro e w3 ⟨rfl, hN⟩)
            | (go_at_call 93; (with_reducible refine (eo _ _ _ _ (by with_reducible assumption)).mono ?_); rintro e w3 ⟨rfl, hN⟩))
        all_goals
          generalize or3 (cmpT x.f2 y.f2) (cmpI x.f3 y.f3) (cmpI (x.f4.length : Int) (y.f4.length : Int)) = r7 at *
          obtain ⟨x0, x1, x2, x3, x4, x5, x6, y0, y1, y2, y3, y4, y5, y6, hb⟩ := id hN
          by_cases h7 : r7 = 0
          · have h71 : (r7 != 0) = false := bne_eq_false_iff_eq.mpr h7
            have H7 := Lib.hid h7
            clear h7
            go_wp2_with (go_at_call 96; (with_reducible refine (ef _ hN).mono ?_); rintro e w4 ⟨rfl, hN4⟩)
            go_ret
            exact ⟨by rw [HX.out, H7.out, lx_0] <;> rfl, hN4.below⟩
          · have h71 : (r7 != 0) = true := bne_iff_ne.mpr h7
            have H7 := Lib.hid h7
            clear h7
            go_wp2_with fail
            go_ret
            exact ⟨by rw [HX.out, lx_ne H7.out] <;> rfl, hN.below⟩
  · have hr1 : (r0 != 0) = true := bne_iff_ne.mpr hr
    have HX : cmpM x y = r0 := by rw [HE.out, lx_ne hr, lx_ne hr]
    rw [HX]
    clear HE HX hr ei et eo ef
    go_enter Try.func17, Try.ntmps17
    go_wp2_with (go_at_call 91; (with_reducible refine (e8' _ hS0).mono ?_); rintro e w1 ⟨rfl, hN⟩)
    go_ret
    exact ⟨rfl, hN.below⟩
theorem compareM_ok : ∀ (n : Nat) (x y : S27), szM x ≤ n → CmpMOk x y
  | 0, x, _, h => by have := szM_pos x; omega
  | n + 1, x, y, h => compareM_step x y (fun a b ha => compareM_ok n a b (by have := szM_sub ha; omega))
set_option maxHeartbeats 1000000 in
set_option maxRecDepth 100000 in
theorem sameM_tr (x y : S27) (a b : Value) (w : World) (ha : TrM w a x) (hb : TrM w b y) : Calls Try.prog 18 #[a, b] w fun e w' => e = .returned (.bool (cmpM x y == 0)) ∧ Below w.heap.size w w' := by
  obtain ⟨A, c, B, d, rfl, hx⟩ := ha
  obtain ⟨A', c', B', d', rfl, hy⟩ := hb
  have hS0 := TwoM.start w x y A c B d A' c' B' d'
  obtain ⟨x0, x1, x2, x3, x4, x5, x6, y0, y1, y2, y3, y4, y5, y6, hb⟩ := id hS0
  have hc := compareM_ok _ x y (Nat.le_refl _) A c B d A' c' B' d' _ (hx.later hb) (hy.later hb)
  clear hS0
  go_enter Try.func18, Try.ntmps18
  go_wp2_with (go_at_call 17; (with_reducible refine hc.mono ?_); rintro e w1 ⟨rfl, hb1⟩)
  go_ret
  exact ⟨rfl, below_step hb hb1⟩
end Go.Proofs.Ytecplbgdalchdaa.Q
/- Proved here: the contracts of the reference's Compare, Same, Has and SameAll of terms. Conditions: those that each theorem names. -/
namespace Go.Proofs.Ytecplbgdalchdaa.Q
open Go.RowKit Go.Shelf Go.Proofs.YtecplbgdalchdaaW.PrintWords Go.Proofs.YtecplbgdalchdaaW.PrintMore
set_option linter.unusedVariables false
set_option linter.unusedSimpArgs false
attribute [local go_sem] Oper.semAt_some


theorem sgnI (a b : Int) : sequentref02_sign.f (decide (a < b)) (a == b) = some (cmpI a b) := by
  unfold sequentref02_sign.f cmpI
  by_cases h : a = b
  · subst h; simp
  · by_cases h2 : a < b
    · simp [h, h2]
    · have h3 : b < a := by omega
      simp [h, h2, h3]
theorem sgnL (a b : Nat) : sequentref02_sign.f (decide (a < b)) ((a : Int) == (b : Int)) = some (cmpI (a : Int) (b : Int)) := by
  have := sgnI (a : Int) (b : Int)
  rwa [show decide ((a : Int) < (b : Int)) = decide (a < b) from decide_eq_decide.2 (by omega)] at this
theorem sgnB (a b : ByteArray) : sequentref02_sign.f (Op.bytesLess a.toList b.toList) (a.toList == b.toList) = some (Lib.compareBytes a.data.toList b.data.toList) := by
  rw [cmpB_eq, ← Go.ByteArray.toList_eq, ← Go.ByteArray.toList_eq]
  unfold sequentref02_sign.f
  by_cases h : a.toList = b.toList
  · simp [h]
  · by_cases h2 : Op.bytesLess a.toList b.toList = true
    · simp [h, h2]
    · simp [h, h2]
theorem lx_assoc (a b c : Int) : lx (lx a b) c = lx a (lx b c) := by unfold lx; split <;> (try split) <;> simp_all
theorem cmpM_six (x y : S27) : cmpM x y = lx (cmpI x.f0 y.f0) (lx (nameC x.f0 x.f1 y.f1) (lx (cmpT x.f2 y.f2) (lx (cmpI x.f3 y.f3) (lx (cmpI (x.f4.length : Int) (y.f4.length : Int)) (cmpML x.f4 y.f4))))) := by
  rw [cmpM_lx]
  unfold headM
  rw [or3_lx, lx_assoc, lx_assoc, lx_assoc, lx_assoc]
theorem lx0 (b : Int) : lx 0 b = b := by unfold lx; simp
theorem lx_nz {a : Int} (h : a ≠ 0) (b : Int) : lx a b = a := by unfold lx; rw [if_pos h]
abbrev RcS (w : World) (x y : S27) (A : Option Addr) (c : Nat) (B : Option Addr) (d : Nat) (A' : Option Addr) (c' : Nat) (B' : Option Addr) (d' : Nat) (kk : Nat) (p q : S27) (ad ae : Addr) (A2 : Option Addr) (c2 : Nat) (A3 : Option Addr) (c3 : Nat) (A4 : Option Addr) (c4 : Nat) (A5 : Option Addr) (c5 : Nat) (W : World) : Prop :=
  TwoM w x y A c B d A' c' B' d' W ∧ (W.cell? (ad.add (kk * 7)) = some (.int .u8 p.f0) ∧ W.cell? ⟨(ad.add (kk * 7)).block, (ad.add (kk * 7)).off + 1, none⟩ = some (.string p.f1) ∧ W.cell? ⟨(ad.add (kk * 7)).block, (ad.add (kk * 7)).off + 2, none⟩ = some (.bool p.f2.f0) ∧ W.cell? ⟨(ad.add (kk * 7)).block, (ad.add (kk * 7)).off + 3, none⟩ = some (.string p.f2.f1) ∧ W.cell? ⟨(ad.add (kk * 7)).block, (ad.add (kk * 7)).off + 4, none⟩ = some (.slice A2 p.f2.f2.length c2) ∧ W.cell? ⟨(ad.add (kk * 7)).block, (ad.add (kk * 7)).off + 5, none⟩ = some (.int .i64 p.f3) ∧ W.cell? ⟨(ad.add (kk * 7)).block, (ad.add (kk * 7)).off + 6, none⟩ = some (.slice A3 p.f4.length c3)) ∧ (W.cell? (ae.add (kk * 7)) = some (.int .u8 q.f0) ∧ W.cell? ⟨(ae.add (kk * 7)).block, (ae.add (kk * 7)).off + 1, none⟩ = some (.string q.f1) ∧ W.cell? ⟨(ae.add (kk * 7)).block, (ae.add (kk * 7)).off + 2, none⟩ = some (.bool q.f2.f0) ∧ W.cell? ⟨(ae.add (kk * 7)).block, (ae.add (kk * 7)).off + 3, none⟩ = some (.string q.f2.f1) ∧ W.cell? ⟨(ae.add (kk * 7)).block, (ae.add (kk * 7)).off + 4, none⟩ = some (.slice A4 q.f2.f2.length c4) ∧ W.cell? ⟨(ae.add (kk * 7)).block, (ae.add (kk * 7)).off + 5, none⟩ = some (.int .i64 q.f3) ∧ W.cell? ⟨(ae.add (kk * 7)).block, (ae.add (kk * 7)).off + 6, none⟩ = some (.slice A5 q.f4.length c5))
theorem RcS.step {w : World} {x y : S27} {A : Option Addr} {c : Nat} {B : Option Addr} {d : Nat} {A' : Option Addr} {c' : Nat} {B' : Option Addr} {d' : Nat} {kk : Nat} {p q : S27} {ad ae : Addr} {A2 : Option Addr} {c2 : Nat} {A3 : Option Addr} {c3 : Nat} {A4 : Option Addr} {c4 : Nat} {A5 : Option Addr} {c5 : Nat} {W W' : World} (h : RcS w x y A c B d A' c' B' d' kk p q ad ae A2 c2 A3 c3 A4 c4 A5 c5 W) (hb : Below W.heap.size W W') : RcS w x y A c B d A' c' B' d' kk p q ad ae A2 c2 A3 c3 A4 c4 A5 c5 W' := by
  obtain ⟨h, ⟨p0, p1, p2, p3, p4, p5, p6⟩, q0, q1, q2, q3, q4, q5, q6⟩ := h
  exact ⟨h.step hb, ⟨pw_cell_below hb p0, pw_cell_below hb p1, pw_cell_below hb p2, pw_cell_below hb p3, pw_cell_below hb p4, pw_cell_below hb p5, pw_cell_below hb p6⟩, pw_cell_below hb q0, pw_cell_below hb q1, pw_cell_below hb q2, pw_cell_below hb q3, pw_cell_below hb q4, pw_cell_below hb q5, pw_cell_below hb q6⟩
set_option maxHeartbeats 8000000 in
set_option maxRecDepth 100000 in
theorem rcmpM_calls (n : Nat) : ∀ x : S27, szM x ≤ n → fitM x → ∀ (y : S27) (A : Option Addr) (c : Nat) (B : Option Addr) (d : Nat) (A' : Option Addr) (c' : Nat) (B' : Option Addr) (d' : Nat) (w : World), RdM w x A c B d → RdM w y A' c' B' d' →
    Calls Try.prog 37 #[.agg #[.int .u8 x.f0, .string x.f1, .bool x.f2.f0, .string x.f2.f1, .slice A x.f2.f2.length c, .int .i64 x.f3, .slice B x.f4.length d], .agg #[.int .u8 y.f0, .string y.f1, .bool y.f2.f0, .string y.f2.f1, .slice A' y.f2.f2.length c', .int .i64 y.f3, .slice B' y.f4.length d']] w fun e w' => e = .returned (.int .i64 (cmpM x y)) ∧ Below w.heap.size w w' := by
  induction n with
  | zero => intro x hn; have := szM_pos x; omega
  | succ n ih =>
  intro x hn hf y A c B d A' c' B' d' w hx hy
  have hS0 := TwoM.start w x y A c B d A' c' B' d'
  obtain ⟨kt, hkt⟩ := (refcmp_ev x.f2 y.f2 (allM_top hf.1).2.1.1).at
  have s1 := fun W (hw : TwoM w x y A c B d A' c' B' d' W) => (sequentref02_sign.calls _ _ _ W (sgnI x.f0 y.f0)).mono (fun _ _ h => And.intro h.1 (hw.step h.2.below))
  have s2 := fun W (hw : TwoM w x y A c B d A' c' B' d' W) => (sequentref02_sign.calls _ _ _ W (sgnB x.f1 y.f1)).mono (fun _ _ h => And.intro h.1 (hw.step h.2.below))
  have s3 := fun W (hw : TwoM w x y A c B d A' c' B' d' W) => (sequentref01_Compare.calls kt x.f2.f0 x.f2.f1 A c x.f2.f2 y.f2.f0 y.f2.f1 A' c' y.f2.f2 _ W (hx.later hw.below).1.1 hx.1.2 (hy.later hw.below).1.1 hy.1.2 hkt).mono (fun _ _ h => And.intro h.1 (hw.step h.2))
  have s4 := fun W (hw : TwoM w x y A c B d A' c' B' d' W) => (sequentref02_sign.calls _ _ _ W (sgnI x.f3 y.f3)).mono (fun _ _ h => And.intro h.1 (hw.step h.2.below))
  have s5 := fun W (hw : TwoM w x y A c B d A' c' B' d' W) => (sequentref02_sign.calls _ _ _ W (sgnL x.f4.length y.f4.length)).mono (fun _ _ h => And.intro h.1 (hw.step h.2.below))
  have hlx : (x.f4.length : Int) ≤ 9223372036854775807 ∧ (y.f4.length : Int) ≤ 9223372036854775807 := ⟨by have := hx.2.1.2.1; omega, by have := hy.2.1.2.1; omega⟩
  have hC := cmpM_six x y
  have hl0 := cmpI_zero (x.f4.length : Int) (y.f4.length : Int)
  have hnm : (x.f0 = 5 ∧ nameC x.f0 x.f1 y.f1 = 0) ∨ (x.f0 ≠ 5 ∧ nameC x.f0 x.f1 y.f1 = Lib.compareBytes x.f1.data.toList y.f1.data.toList) := by
    unfold nameC
    by_cases h : x.f0 = 5
    · exact .inl ⟨h, by rw [if_pos h]⟩
    · exact .inr ⟨h, by rw [if_neg h]⟩
  have ihc := fun (kk : Nat) (hk : kk < x.f4.length) => ih x.f4[kk] (by have := szM_sub (List.getElem_mem hk); omega) (fitM_sub hf (List.getElem_mem hk))
  have HX := Aside0.mk hx
  have HY := Aside0.mk hy
  have IHC := Aside0.mk ihc
  have HFS := Lib.hid hf.2
  have HSZ := Lib.hid (szM_eq x)
  have HLE := Lib.hid (szML_len x.f4)
  clear ih hn hf hx hy hkt ihc
  generalize hc1 : cmpI x.f0 y.f0 = k1 at *
  generalize hc2 : Lib.compareBytes x.f1.data.toList y.f1.data.toList = k2 at *
  generalize nameC x.f0 x.f1 y.f1 = k2' at *
  generalize hc3 : cmpT x.f2 y.f2 = k3 at *
  generalize hc4 : cmpI x.f3 y.f3 = k4 at *
  generalize hc5 : cmpI (x.f4.length : Int) (y.f4.length : Int) = k5 at *
  clear hc1 hc2 hc3 hc4 hc5
  have HC := Aside0.mk hC
  clear hC
  by_cases z1 : k1 ≠ 0
  · have b1 : (k1 == 0) = false := beq_eq_false_iff_ne.mpr z1
    have e1 := fun q => lx_nz z1 q
    have HE := Aside0.mk e1
    clear z1 e1 hnm s2 s3 s4 s5
    have hN := hS0
    obtain ⟨x0, x1, x2, x3, x4, x5, x6, y0, y1, y2, y3, y4, y5, y6, hb⟩ := id hN
    clear hS0
    go_enter Try.func37, Try.ntmps37
    go_wp2_with (first | (go_at_call 107; (with_reducible refine (s1 _ hN).mono ?_); rintro e W1 ⟨rfl, hN⟩; obtain ⟨x0, x1, x2, x3, x4, x5, x6, y0, y1, y2, y3, y4, y5, y6, hb⟩ := id hN))
    go_loopg [5, 6] 0 (fun gg v5 v6 wr => v5 = .int .i64 k1 ∧ Aside0 (TwoM w x y A c B d A' c' B' d' wr))
    case atStart => exact ⟨rfl, ⟨hN⟩⟩
    case round =>
      obtain ⟨rfl, HN⟩ := hrel
      clear hN
      obtain ⟨x0, x1, x2, x3, x4, x5, x6, y0, y1, y2, y3, y4, y5, y6, hb⟩ := id HN.out
      go_wp2_with fail
      go_ret
      exact ⟨by rw [HC.out, HE.out]; rfl, HN.out.below⟩
  replace z1 : k1 = 0 := Decidable.not_not.mp z1
  subst z1
  rcases hnm with ⟨hk, rfl⟩ | ⟨hk, rfl⟩
  · have kn : (x.f0 != 5) = false := bne_eq_false_iff_eq.mpr hk
    clear hk s2
    by_cases z3 : k3 ≠ 0
    · have b3 : (k3 == 0) = false := beq_eq_false_iff_ne.mpr z3
      have HE := Aside0.mk (fun q => lx_nz z3 q)
      clear z3 s4 s5
      have hN := hS0
      obtain ⟨x0, x1, x2, x3, x4, x5, x6, y0, y1, y2, y3, y4, y5, y6, hb⟩ := id hN
      clear hS0
      go_enter Try.func37, Try.ntmps37
      go_wp2_with (first | (go_at_call 106; (with_reducible refine (s3 _ hN).mono ?_); rintro e W1 ⟨rfl, hN⟩; obtain ⟨x0, x1, x2, x3, x4, x5, x6, y0, y1, y2, y3, y4, y5, y6, hb⟩ := id hN) | (go_at_call 107; (with_reducible refine (s1 _ hN).mono ?_); rintro e W1 ⟨rfl, hN⟩; obtain ⟨x0, x1, x2, x3, x4, x5, x6, y0, y1, y2, y3, y4, y5, y6, hb⟩ := id hN))
      go_loopg [5, 6] 0 (fun gg v5 v6 wr => v5 = .int .i64 k3 ∧ Aside0 (TwoM w x y A c B d A' c' B' d' wr))
      case atStart => exact ⟨rfl, ⟨hN⟩⟩
      case round =>
        obtain ⟨rfl, HN⟩ := hrel
        clear hN
        obtain ⟨x0, x1, x2, x3, x4, x5, x6, y0, y1, y2, y3, y4, y5, y6, hb⟩ := id HN.out
        go_wp2_with fail
        go_ret
        exact ⟨by rw [HC.out, lx0, lx0, HE.out]; rfl, HN.out.below⟩
    replace z3 : k3 = 0 := Decidable.not_not.mp z3
    subst z3
    by_cases z4 : k4 ≠ 0
    · have b4 : (k4 == 0) = false := beq_eq_false_iff_ne.mpr z4
      have HE := Aside0.mk (fun q => lx_nz z4 q)
      clear z4 s5
      have hN := hS0
      obtain ⟨x0, x1, x2, x3, x4, x5, x6, y0, y1, y2, y3, y4, y5, y6, hb⟩ := id hN
      clear hS0
      go_enter Try.func37, Try.ntmps37
      go_wp2_with (first | (go_at_call 107; (with_reducible refine (s4 _ hN).mono ?_); rintro e W1 ⟨rfl, hN⟩; obtain ⟨x0, x1, x2, x3, x4, x5, x6, y0, y1, y2, y3, y4, y5, y6, hb⟩ := id hN) | (go_at_call 106; (with_reducible refine (s3 _ hN).mono ?_); rintro e W1 ⟨rfl, hN⟩; obtain ⟨x0, x1, x2, x3, x4, x5, x6, y0, y1, y2, y3, y4, y5, y6, hb⟩ := id hN) | (go_at_call 107; (with_reducible refine (s1 _ hN).mono ?_); rintro e W1 ⟨rfl, hN⟩; obtain ⟨x0, x1, x2, x3, x4, x5, x6, y0, y1, y2, y3, y4, y5, y6, hb⟩ := id hN))
      go_loopg [5, 6] 0 (fun gg v5 v6 wr => v5 = .int .i64 k4 ∧ Aside0 (TwoM w x y A c B d A' c' B' d' wr))
      case atStart => exact ⟨rfl, ⟨hN⟩⟩
      case round =>
        obtain ⟨rfl, HN⟩ := hrel
        clear hN
        obtain ⟨x0, x1, x2, x3, x4, x5, x6, y0, y1, y2, y3, y4, y5, y6, hb⟩ := id HN.out
        go_wp2_with fail
        go_ret
        exact ⟨by rw [HC.out, lx0, lx0, lx0, HE.out]; rfl, HN.out.below⟩
    replace z4 : k4 = 0 := Decidable.not_not.mp z4
    subst z4
    by_cases z5 : k5 ≠ 0
    · have b5 : (k5 == 0) = false := beq_eq_false_iff_ne.mpr z5
      have HE := Aside0.mk (fun q => lx_nz z5 q)
      clear z5 
      have hN := hS0
      obtain ⟨x0, x1, x2, x3, x4, x5, x6, y0, y1, y2, y3, y4, y5, y6, hb⟩ := id hN
      clear hS0
      go_enter Try.func37, Try.ntmps37
      go_wp2_with (first | (go_at_call 107; (with_reducible refine (s5 _ hN).mono ?_); rintro e W1 ⟨rfl, hN⟩; obtain ⟨x0, x1, x2, x3, x4, x5, x6, y0, y1, y2, y3, y4, y5, y6, hb⟩ := id hN) | (go_at_call 107; (with_reducible refine (s4 _ hN).mono ?_); rintro e W1 ⟨rfl, hN⟩; obtain ⟨x0, x1, x2, x3, x4, x5, x6, y0, y1, y2, y3, y4, y5, y6, hb⟩ := id hN) | (go_at_call 106; (with_reducible refine (s3 _ hN).mono ?_); rintro e W1 ⟨rfl, hN⟩; obtain ⟨x0, x1, x2, x3, x4, x5, x6, y0, y1, y2, y3, y4, y5, y6, hb⟩ := id hN) | (go_at_call 107; (with_reducible refine (s1 _ hN).mono ?_); rintro e W1 ⟨rfl, hN⟩; obtain ⟨x0, x1, x2, x3, x4, x5, x6, y0, y1, y2, y3, y4, y5, y6, hb⟩ := id hN))
      go_loopg [5, 6] 0 (fun gg v5 v6 wr => v5 = .int .i64 k5 ∧ Aside0 (TwoM w x y A c B d A' c' B' d' wr))
      case atStart => exact ⟨rfl, ⟨hN⟩⟩
      case round =>
        obtain ⟨rfl, HN⟩ := hrel
        clear hN
        obtain ⟨x0, x1, x2, x3, x4, x5, x6, y0, y1, y2, y3, y4, y5, y6, hb⟩ := id HN.out
        go_wp2_with fail
        go_ret
        exact ⟨by rw [HC.out, lx0, lx0, lx0, lx0, HE.out]; rfl, HN.out.below⟩
    replace z5 : k5 = 0 := Decidable.not_not.mp z5
    have hlq := hl0.1 z5
    have hlq2 : x.f4.length = y.f4.length := by omega
    have HLQ := Lib.hid hlq2
    clear hlq hlq2 hl0
    subst z5
    have hN := hS0
    obtain ⟨x0, x1, x2, x3, x4, x5, x6, y0, y1, y2, y3, y4, y5, y6, hb⟩ := id hN
    clear hS0
    go_enter Try.func37, Try.ntmps37
    go_wp2_with (first | (go_at_call 107; (with_reducible refine (s5 _ hN).mono ?_); rintro e W1 ⟨rfl, hN⟩; obtain ⟨x0, x1, x2, x3, x4, x5, x6, y0, y1, y2, y3, y4, y5, y6, hb⟩ := id hN) | (go_at_call 107; (with_reducible refine (s4 _ hN).mono ?_); rintro e W1 ⟨rfl, hN⟩; obtain ⟨x0, x1, x2, x3, x4, x5, x6, y0, y1, y2, y3, y4, y5, y6, hb⟩ := id hN) | (go_at_call 106; (with_reducible refine (s3 _ hN).mono ?_); rintro e W1 ⟨rfl, hN⟩; obtain ⟨x0, x1, x2, x3, x4, x5, x6, y0, y1, y2, y3, y4, y5, y6, hb⟩ := id hN) | (go_at_call 107; (with_reducible refine (s1 _ hN).mono ?_); rintro e W1 ⟨rfl, hN⟩; obtain ⟨x0, x1, x2, x3, x4, x5, x6, y0, y1, y2, y3, y4, y5, y6, hb⟩ := id hN))
    go_loopg [5, 6] x.f4.length (fun gg v5 v6 wr => ∃ (cc : Int) (kk : Nat), kk ≤ x.f4.length ∧ gg + kk = x.f4.length ∧ v5 = .int .i64 cc ∧ v6 = .int .i64 (kk : Int) ∧ (if cc = 0 then cmpML x.f4 y.f4 = cmpML (x.f4.drop kk) (y.f4.drop kk) else cmpML x.f4 y.f4 = cc) ∧ Aside0 (TwoM w x y A c B d A' c' B' d' wr))
    case atStart => exact ⟨0, 0, by omega, by omega, rfl, rfl, by rw [if_pos rfl]; rfl, ⟨hN⟩⟩
    case round =>
      obtain ⟨cc, kk, hk1, hk2, rfl, rfl, hrest, HN⟩ := hrel
      clear hN
      obtain ⟨x0, x1, x2, x3, x4, x5, x6, y0, y1, y2, y3, y4, y5, y6, hb⟩ := id HN.out
      have HR := Lib.hid hrest
      clear hrest
      by_cases hcc : cc ≠ 0
      · have bc : (cc == 0) = false := beq_eq_false_iff_ne.mpr hcc
        have HCC := Lib.hid hcc
        clear hcc
        go_wp2_with fail
        go_ret
        have hr := HR.out
        rw [if_neg HCC.out] at hr
        exact ⟨by rw [HC.out, hr, lx0, lx0, lx0, lx0, lx0]; rfl, HN.out.below⟩
      replace hcc : cc = 0 := Decidable.not_not.mp hcc
      subst hcc
      have hr := HR.out
      rw [if_pos rfl] at hr
      clear HR
      by_cases hkk : kk < x.f4.length
      · have hky : kk < y.f4.length := by have := HLQ.out; omega
        have q0 : decide (kk < x.f4.length) = true := decide_eq_true hkk
        have q1 : decide (kk < y.f4.length) = true := decide_eq_true hky
        obtain ⟨ad, A2, c2, A3, c3, e1, hp, hE⟩ := tm_elem (Kd.V_mk (e := 27) (base := 0) HX.out.2.2 (Kd.C_F k27_heap HX.out.2.1)) kk hkk
        obtain ⟨ae, A4, c4, A5, c5, e2, hq, hG⟩ := tm_elem (Kd.V_mk (e := 27) (base := 0) HY.out.2.2 (Kd.C_F k27_heap HY.out.2.1)) kk hky
        have hIH := IHC.out kk hkk
        rw [rdM x.f4 kk hkk] at hp hE
        rw [rdM y.f4 kk hky] at hq hG
        rw [List.drop_eq_getElem_cons hkk, List.drop_eq_getElem_cons hky, cmpML_lx] at hr
        generalize x.f4[kk] = p at *
        generalize y.f4[kk] = q at *
        have HRR := Lib.hid hr
        clear hr
        obtain ⟨p0, p1, p2, p3, p4, p5, p6⟩ := hp
        obtain ⟨r0, r1, r2, r3, r4, r5, r6⟩ := hq
        have hK : RcS w x y A c B d A' c' B' d' kk p q ad ae A2 c2 A3 c3 A4 c4 A5 c5 wr := ⟨HN.out, ⟨pw_cell_below hb p0, pw_cell_below hb p1, pw_cell_below hb p2, pw_cell_below hb p3, pw_cell_below hb p4, pw_cell_below hb p5, pw_cell_below hb p6⟩, pw_cell_below hb r0, pw_cell_below hb r1, pw_cell_below hb r2, pw_cell_below hb r3, pw_cell_below hb r4, pw_cell_below hb r5, pw_cell_below hb r6⟩
        have hcall : ∀ W, RcS w x y A c B d A' c' B' d' kk p q ad ae A2 c2 A3 c3 A4 c4 A5 c5 W → Calls Try.prog 37 #[.agg #[.int .u8 p.f0, .string p.f1, .bool p.f2.f0, .string p.f2.f1, .slice A2 p.f2.f2.length c2, .int .i64 p.f3, .slice A3 p.f4.length c3], .agg #[.int .u8 q.f0, .string q.f1, .bool q.f2.f0, .string q.f2.f1, .slice A4 q.f2.f2.length c4, .int .i64 q.f3, .slice A5 q.f4.length c5]] W fun e w' => e = .returned (.int .i64 (cmpM p q)) ∧ RcS w x y A c B d A' c' B' d' kk p q ad ae A2 c2 A3 c3 A4 c4 A5 c5 w' := fun W hW => (hIH q A2 c2 A3 c3 A4 c4 A5 c5 W (hE.rd.later hW.1.below) (hG.rd.later hW.1.below)).mono (fun _ _ h => And.intro h.1 (hW.step h.2))
        clear p0 p1 p2 p3 p4 p5 p6 r0 r1 r2 r3 r4 r5 r6 hIH hE hG x0 x1 x2 x3 x4 x5 x6 y0 y1 y2 y3 y4 y5 y6 hb
        obtain ⟨⟨x0, x1, x2, x3, x4, x5, x6, y0, y1, y2, y3, y4, y5, y6, hb⟩, ⟨p0, p1, p2, p3, p4, p5, p6⟩, r0, r1, r2, r3, r4, r5, r6⟩ := id hK
        cases e1
        cases e2
        go_wp2_with fail
        have hN0 := hK.step (below_drew1 (Below.refl wr.heap.size wr))
        clear x0 x1 x2 x3 x4 x5 x6 y0 y1 y2 y3 y4 y5 y6 hb p0 p1 p2 p3 p4 p5 p6 r0 r1 r2 r3 r4 r5 r6
        go_region_held3 (fun W => RcS w x y A c (some ad) d A' c' (some ae) d' kk p q ad ae A2 c2 A3 c3 A4 c4 A5 c5 W)
          (first | (with_reducible exact hN0) | (with_reducible assumption))
          (first | (go_at_call 37; (with_reducible refine (hcall _ (by with_reducible assumption)).mono ?_); rintro e W1 ⟨rfl, hN⟩))
        go_wp2
        go_roundg (x.f4.length - kk - 1)
        case measure => omega
        case rel =>
          refine ⟨cmpM p q, kk + 1, by omega, by omega, rfl, by simp <;> exact w64s (by have := HFS.out; have := HSZ.out; have := HLE.out; omega), ?_, ⟨hN.1⟩⟩
          rw [HRR.out]
          unfold lx
          by_cases h : cmpM p q = 0
          · rw [if_pos h, if_neg (by rw [h]; simp)]
          · rw [if_neg h, if_pos h]
      · have q0 : decide (kk < x.f4.length) = false := decide_eq_false hkk
        obtain rfl : kk = x.f4.length := by omega
        have HRR := Lib.hid hr
        clear hr
        go_wp2_with fail
        go_ret
        have hr := HRR.out
        rw [List.drop_length, HLQ.out, List.drop_length] at hr
        exact ⟨by rw [HC.out, hr, lx0, lx0, lx0, lx0, lx0]; rfl, HN.out.below⟩
  · have kn : (x.f0 != 5) = true := bne_iff_ne.mpr hk
    clear hk
    by_cases z2 : k2' ≠ 0
    · have b2 : (k2' == 0) = false := beq_eq_false_iff_ne.mpr z2
      have HE := Aside0.mk (fun q => lx_nz z2 q)
      clear z2 s3 s4 s5
      have hN := hS0
      obtain ⟨x0, x1, x2, x3, x4, x5, x6, y0, y1, y2, y3, y4, y5, y6, hb⟩ := id hN
      clear hS0
      go_enter Try.func37, Try.ntmps37
      go_wp2_with (first | (go_at_call 107; (with_reducible refine (s2 _ hN).mono ?_); rintro e W1 ⟨rfl, hN⟩; obtain ⟨x0, x1, x2, x3, x4, x5, x6, y0, y1, y2, y3, y4, y5, y6, hb⟩ := id hN) | (go_at_call 107; (with_reducible refine (s1 _ hN).mono ?_); rintro e W1 ⟨rfl, hN⟩; obtain ⟨x0, x1, x2, x3, x4, x5, x6, y0, y1, y2, y3, y4, y5, y6, hb⟩ := id hN))
      go_loopg [5, 6] 0 (fun gg v5 v6 wr => v5 = .int .i64 k2' ∧ Aside0 (TwoM w x y A c B d A' c' B' d' wr))
      case atStart => exact ⟨rfl, ⟨hN⟩⟩
      case round =>
        obtain ⟨rfl, HN⟩ := hrel
        clear hN
        obtain ⟨x0, x1, x2, x3, x4, x5, x6, y0, y1, y2, y3, y4, y5, y6, hb⟩ := id HN.out
        go_wp2_with fail
        go_ret
        exact ⟨by rw [HC.out, lx0, HE.out]; rfl, HN.out.below⟩
    replace z2 : k2' = 0 := Decidable.not_not.mp z2
    subst z2
    by_cases z3 : k3 ≠ 0
    · have b3 : (k3 == 0) = false := beq_eq_false_iff_ne.mpr z3
      have HE := Aside0.mk (fun q => lx_nz z3 q)
      clear z3 s4 s5
      have hN := hS0
      obtain ⟨x0, x1, x2, x3, x4, x5, x6, y0, y1, y2, y3, y4, y5, y6, hb⟩ := id hN
      clear hS0
      go_enter Try.func37, Try.ntmps37
      go_wp2_with (first | (go_at_call 106; (with_reducible refine (s3 _ hN).mono ?_); rintro e W1 ⟨rfl, hN⟩; obtain ⟨x0, x1, x2, x3, x4, x5, x6, y0, y1, y2, y3, y4, y5, y6, hb⟩ := id hN) | (go_at_call 107; (with_reducible refine (s2 _ hN).mono ?_); rintro e W1 ⟨rfl, hN⟩; obtain ⟨x0, x1, x2, x3, x4, x5, x6, y0, y1, y2, y3, y4, y5, y6, hb⟩ := id hN) | (go_at_call 107; (with_reducible refine (s1 _ hN).mono ?_); rintro e W1 ⟨rfl, hN⟩; obtain ⟨x0, x1, x2, x3, x4, x5, x6, y0, y1, y2, y3, y4, y5, y6, hb⟩ := id hN))
      go_loopg [5, 6] 0 (fun gg v5 v6 wr => v5 = .int .i64 k3 ∧ Aside0 (TwoM w x y A c B d A' c' B' d' wr))
      case atStart => exact ⟨rfl, ⟨hN⟩⟩
      case round =>
        obtain ⟨rfl, HN⟩ := hrel
        clear hN
        obtain ⟨x0, x1, x2, x3, x4, x5, x6, y0, y1, y2, y3, y4, y5, y6, hb⟩ := id HN.out
        go_wp2_with fail
        go_ret
        exact ⟨by rw [HC.out, lx0, lx0, HE.out]; rfl, HN.out.below⟩
    replace z3 : k3 = 0 := Decidable.not_not.mp z3
    subst z3
    by_cases z4 : k4 ≠ 0
    · have b4 : (k4 == 0) = false := beq_eq_false_iff_ne.mpr z4
      have HE := Aside0.mk (fun q => lx_nz z4 q)
      clear z4 s5
      have hN := hS0
      obtain ⟨x0, x1, x2, x3, x4, x5, x6, y0, y1, y2, y3, y4, y5, y6, hb⟩ := id hN
      clear hS0
      go_enter Try.func37, Try.ntmps37
      go_wp2_with (first | (go_at_call 107; (with_reducible refine (s4 _ hN).mono ?_); rintro e W1 ⟨rfl, hN⟩; obtain ⟨x0, x1, x2, x3, x4, x5, x6, y0, y1, y2, y3, y4, y5, y6, hb⟩ := id hN) | (go_at_call 106; (with_reducible refine (s3 _ hN).mono ?_); rintro e W1 ⟨rfl, hN⟩; obtain ⟨x0, x1, x2, x3, x4, x5, x6, y0, y1, y2, y3, y4, y5, y6, hb⟩ := id hN) | (go_at_call 107; (with_reducible refine (s2 _ hN).mono ?_); rintro e W1 ⟨rfl, hN⟩; obtain ⟨x0, x1, x2, x3, x4, x5, x6, y0, y1, y2, y3, y4, y5, y6, hb⟩ := id hN) | (go_at_call 107; (with_reducible refine (s1 _ hN).mono ?_); rintro e W1 ⟨rfl, hN⟩; obtain ⟨x0, x1, x2, x3, x4, x5, x6, y0, y1, y2, y3, y4, y5, y6, hb⟩ := id hN))
      go_loopg [5, 6] 0 (fun gg v5 v6 wr => v5 = .int .i64 k4 ∧ Aside0 (TwoM w x y A c B d A' c' B' d' wr))
      case atStart => exact ⟨rfl, ⟨hN⟩⟩
      case round =>
        obtain ⟨rfl, HN⟩ := hrel
        clear hN
        obtain ⟨x0, x1, x2, x3, x4, x5, x6, y0, y1, y2, y3, y4, y5, y6, hb⟩ := id HN.out
        go_wp2_with fail
        go_ret
        exact ⟨by rw [HC.out, lx0, lx0, lx0, HE.out]; rfl, HN.out.below⟩
    replace z4 : k4 = 0 := Decidable.not_not.mp z4
    subst z4
    by_cases z5 : k5 ≠ 0
    · have b5 : (k5 == 0) = false := beq_eq_false_iff_ne.mpr z5
      have HE := Aside0.mk (fun q => lx_nz z5 q)
      clear z5 
      have hN := hS0
      obtain ⟨x0, x1, x2, x3, x4, x5, x6, y0, y1, y2, y3, y4, y5, y6, hb⟩ := id hN
      clear hS0
      go_enter Try.func37, Try.ntmps37
      go_wp2_with (first | (go_at_call 107; (with_reducible refine (s5 _ hN).mono ?_); rintro e W1 ⟨rfl, hN⟩; obtain ⟨x0, x1, x2, x3, x4, x5, x6, y0, y1, y2, y3, y4, y5, y6, hb⟩ := id hN) | (go_at_call 107; (with_reducible refine (s4 _ hN).mono ?_); rintro e W1 ⟨rfl, hN⟩; obtain ⟨x0, x1, x2, x3, x4, x5, x6, y0, y1, y2, y3, y4, y5, y6, hb⟩ := id hN) | (go_at_call 106; (with_reducible refine (s3 _ hN).mono ?_); rintro e W1 ⟨rfl, hN⟩; obtain ⟨x0, x1, x2, x3, x4, x5, x6, y0, y1, y2, y3, y4, y5, y6, hb⟩ := id hN) | (go_at_call 107; (with_reducible refine (s2 _ hN).mono ?_); rintro e W1 ⟨rfl, hN⟩; obtain ⟨x0, x1, x2, x3, x4, x5, x6, y0, y1, y2, y3, y4, y5, y6, hb⟩ := id hN) | (go_at_call 107; (with_reducible refine (s1 _ hN).mono ?_); rintro e W1 ⟨rfl, hN⟩; obtain ⟨x0, x1, x2, x3, x4, x5, x6, y0, y1, y2, y3, y4, y5, y6, hb⟩ := id hN))
      go_loopg [5, 6] 0 (fun gg v5 v6 wr => v5 = .int .i64 k5 ∧ Aside0 (TwoM w x y A c B d A' c' B' d' wr))
      case atStart => exact ⟨rfl, ⟨hN⟩⟩
      case round =>
        obtain ⟨rfl, HN⟩ := hrel
        clear hN
        obtain ⟨x0, x1, x2, x3, x4, x5, x6, y0, y1, y2, y3, y4, y5, y6, hb⟩ := id HN.out
        go_wp2_with fail
        go_ret
        exact ⟨by rw [HC.out, lx0, lx0, lx0, lx0, HE.out]; rfl, HN.out.below⟩
    replace z5 : k5 = 0 := Decidable.not_not.mp z5
    have hlq := hl0.1 z5
    have hlq2 : x.f4.length = y.f4.length := by omega
    have HLQ := Lib.hid hlq2
    clear hlq hlq2 hl0
    subst z5
    have hN := hS0
    obtain ⟨x0, x1, x2, x3, x4, x5, x6, y0, y1, y2, y3, y4, y5, y6, hb⟩ := id hN
    clear hS0
    go_enter Try.func37, Try.ntmps37
    go_wp2_with (first | (go_at_call 107; (with_reducible refine (s5 _ hN).mono ?_); rintro e W1 ⟨rfl, hN⟩; obtain ⟨x0, x1, x2, x3, x4, x5, x6, y0, y1, y2, y3, y4, y5, y6, hb⟩ := id hN) | (go_at_call 107; (with_reducible refine (s4 _ hN).mono ?_); rintro e W1 ⟨rfl, hN⟩; obtain ⟨x0, x1, x2, x3, x4, x5, x6, y0, y1, y2, y3, y4, y5, y6, hb⟩ := id hN) | (go_at_call 106; (with_reducible refine (s3 _ hN).mono ?_); rintro e W1 ⟨rfl, hN⟩; obtain ⟨x0, x1, x2, x3, x4, x5, x6, y0, y1, y2, y3, y4, y5, y6, hb⟩ := id hN) | (go_at_call 107; (with_reducible refine (s2 _ hN).mono ?_); rintro e W1 ⟨rfl, hN⟩; obtain ⟨x0, x1, x2, x3, x4, x5, x6, y0, y1, y2, y3, y4, y5, y6, hb⟩ := id hN) | (go_at_call 107; (with_reducible refine (s1 _ hN).mono ?_); rintro e W1 ⟨rfl, hN⟩; obtain ⟨x0, x1, x2, x3, x4, x5, x6, y0, y1, y2, y3, y4, y5, y6, hb⟩ := id hN))
    go_loopg [5, 6] x.f4.length (fun gg v5 v6 wr => ∃ (cc : Int) (kk : Nat), kk ≤ x.f4.length ∧ gg + kk = x.f4.length ∧ v5 = .int .i64 cc ∧ v6 = .int .i64 (kk : Int) ∧ (if cc = 0 then cmpML x.f4 y.f4 = cmpML (x.f4.drop kk) (y.f4.drop kk) else cmpML x.f4 y.f4 = cc) ∧ Aside0 (TwoM w x y A c B d A' c' B' d' wr))
    case atStart => exact ⟨0, 0, by omega, by omega, rfl, rfl, by rw [if_pos rfl]; rfl, ⟨hN⟩⟩
    case round =>
      obtain ⟨cc, kk, hk1, hk2, rfl, rfl, hrest, HN⟩ := hrel
      clear hN
      obtain ⟨x0, x1, x2, x3, x4, x5, x6, y0, y1, y2, y3, y4, y5, y6, hb⟩ := id HN.out
      have HR := Lib.hid hrest
      clear hrest
      by_cases hcc : cc ≠ 0
      · have bc : (cc == 0) = false := beq_eq_false_iff_ne.mpr hcc
        have HCC := Lib.hid hcc
        clear hcc
        go_wp2_with fail
        go_ret
        have hr := HR.out
        rw [if_neg HCC.out] at hr
        exact ⟨by rw [HC.out, hr, lx0, lx0, lx0, lx0, lx0]; rfl, HN.out.below⟩
      replace hcc : cc = 0 := Decidable.not_not.mp hcc
      subst hcc
      have hr := HR.out
      rw [if_pos rfl] at hr
      clear HR
      by_cases hkk : kk < x.f4.length
      · have hky : kk < y.f4.length := by have := HLQ.out; omega
        have q0 : decide (kk < x.f4.length) = true := decide_eq_true hkk
        have q1 : decide (kk < y.f4.length) = true := decide_eq_true hky
        obtain ⟨ad, A2, c2, A3, c3, e1, hp, hE⟩ := tm_elem (Kd.V_mk (e := 27) (base := 0) HX.out.2.2 (Kd.C_F k27_heap HX.out.2.1)) kk hkk
        obtain ⟨ae, A4, c4, A5, c5, e2, hq, hG⟩ := tm_elem (Kd.V_mk (e := 27) (base := 0) HY.out.2.2 (Kd.C_F k27_heap HY.out.2.1)) kk hky
        have hIH := IHC.out kk hkk
        rw [rdM x.f4 kk hkk] at hp hE
        rw [rdM y.f4 kk hky] at hq hG
        rw [List.drop_eq_getElem_cons hkk, List.drop_eq_getElem_cons hky, cmpML_lx] at hr
        generalize x.f4[kk] = p at *
        generalize y.f4[kk] = q at *
        have HRR := Lib.hid hr
        clear hr
        obtain ⟨p0, p1, p2, p3, p4, p5, p6⟩ := hp
        obtain ⟨r0, r1, r2, r3, r4, r5, r6⟩ := hq
        have hK : RcS w x y A c B d A' c' B' d' kk p q ad ae A2 c2 A3 c3 A4 c4 A5 c5 wr := ⟨HN.out, ⟨pw_cell_below hb p0, pw_cell_below hb p1, pw_cell_below hb p2, pw_cell_below hb p3, pw_cell_below hb p4, pw_cell_below hb p5, pw_cell_below hb p6⟩, pw_cell_below hb r0, pw_cell_below hb r1, pw_cell_below hb r2, pw_cell_below hb r3, pw_cell_below hb r4, pw_cell_below hb r5, pw_cell_below hb r6⟩
        have hcall : ∀ W, RcS w x y A c B d A' c' B' d' kk p q ad ae A2 c2 A3 c3 A4 c4 A5 c5 W → Calls Try.prog 37 #[.agg #[.int .u8 p.f0, .string p.f1, .bool p.f2.f0, .string p.f2.f1, .slice A2 p.f2.f2.length c2, .int .i64 p.f3, .slice A3 p.f4.length c3], .agg #[.int .u8 q.f0, .string q.f1, .bool q.f2.f0, .string q.f2.f1, .slice A4 q.f2.f2.length c4, .int .i64 q.f3, .slice A5 q.f4.length c5]] W fun e w' => e = .returned (.int .i64 (cmpM p q)) ∧ RcS w x y A c B d A' c' B' d' kk p q ad ae A2 c2 A3 c3 A4 c4 A5 c5 w' := fun W hW => (hIH q A2 c2 A3 c3 A4 c4 A5 c5 W (hE.rd.later hW.1.below) (hG.rd.later hW.1.below)).mono (fun _ _ h => And.intro h.1 (hW.step h.2))
        clear p0 p1 p2 p3 p4 p5 p6 r0 r1 r2 r3 r4 r5 r6 hIH hE hG x0 x1 x2 x3 x4 x5 x6 y0 y1 y2 y3 y4 y5 y6 hb
        obtain ⟨⟨x0, x1, x2, x3, x4, x5, x6, y0, y1, y2, y3, y4, y5, y6, hb⟩, ⟨p0, p1, p2, p3, p4, p5, p6⟩, r0, r1, r2, r3, r4, r5, r6⟩ := id hK
        cases e1
        cases e2
        go_wp2_with fail
        have hN0 := hK.step (below_drew1 (Below.refl wr.heap.size wr))
        clear x0 x1 x2 x3 x4 x5 x6 y0 y1 y2 y3 y4 y5 y6 hb p0 p1 p2 p3 p4 p5 p6 r0 r1 r2 r3 r4 r5 r6
        go_region_held3 (fun W => RcS w x y A c (some ad) d A' c' (some ae) d' kk p q ad ae A2 c2 A3 c3 A4 c4 A5 c5 W)
          (first | (with_reducible exact hN0) | (with_reducible assumption))
          (first | (go_at_call 37; (with_reducible refine (hcall _ (by with_reducible assumption)).mono ?_); rintro e W1 ⟨rfl, hN⟩))
        go_wp2
        go_roundg (x.f4.length - kk - 1)
        case measure => omega
        case rel =>
          refine ⟨cmpM p q, kk + 1, by omega, by omega, rfl, by simp <;> exact w64s (by have := HFS.out; have := HSZ.out; have := HLE.out; omega), ?_, ⟨hN.1⟩⟩
          rw [HRR.out]
          unfold lx
          by_cases h : cmpM p q = 0
          · rw [if_pos h, if_neg (by rw [h]; simp)]
          · rw [if_neg h, if_pos h]
      · have q0 : decide (kk < x.f4.length) = false := decide_eq_false hkk
        obtain rfl : kk = x.f4.length := by omega
        have HRR := Lib.hid hr
        clear hr
        go_wp2_with fail
        go_ret
        have hr := HRR.out
        rw [List.drop_length, HLQ.out, List.drop_length] at hr
        exact ⟨by rw [HC.out, hr, lx0, lx0, lx0, lx0, lx0]; rfl, HN.out.below⟩
set_option maxHeartbeats 2000000 in
set_option maxRecDepth 100000 in
theorem rsameM_tr (x y : S27) (hf : fitM x) (a b : Value) (w : World) (ha : TrM w a x) (hb : TrM w b y) : Calls Try.prog 38 #[a, b] w fun e w' => e = .returned (.bool (cmpM x y == 0)) ∧ Below w.heap.size w w' := by
  obtain ⟨A, c, B, d, rfl, hx⟩ := ha
  obtain ⟨A', c', B', d', rfl, hy⟩ := hb
  have hS0 := TwoM.start w x y A c B d A' c' B' d'
  obtain ⟨x0, x1, x2, x3, x4, x5, x6, y0, y1, y2, y3, y4, y5, y6, hb⟩ := id hS0
  have hc := rcmpM_calls _ x (Nat.le_refl _) hf y A c B d A' c' B' d' _ (hx.later hb) (hy.later hb)
  clear hS0
  go_enter Try.func38, Try.ntmps38
  go_wp2_with (go_at_call 37; (with_reducible refine hc.mono ?_); rintro e w1 ⟨rfl, hb1⟩)
  go_ret
  exact ⟨rfl, below_step hb hb1⟩
abbrev HsS (w : World) (t : S27) (A : Option Addr) (c : Nat) (B : Option Addr) (d : Nat) (kk : Nat) (p : S27) (ad : Addr) (A2 : Option Addr) (c2 : Nat) (A3 : Option Addr) (c3 : Nat) (W : World) : Prop := BxM W w.heap.size t A c B d ∧ Below w.heap.size w W ∧ (W.cell? (ad.add (kk * 7)) = some (.int .u8 p.f0) ∧ W.cell? ⟨(ad.add (kk * 7)).block, (ad.add (kk * 7)).off + 1, none⟩ = some (.string p.f1) ∧ W.cell? ⟨(ad.add (kk * 7)).block, (ad.add (kk * 7)).off + 2, none⟩ = some (.bool p.f2.f0) ∧ W.cell? ⟨(ad.add (kk * 7)).block, (ad.add (kk * 7)).off + 3, none⟩ = some (.string p.f2.f1) ∧ W.cell? ⟨(ad.add (kk * 7)).block, (ad.add (kk * 7)).off + 4, none⟩ = some (.slice A2 p.f2.f2.length c2) ∧ W.cell? ⟨(ad.add (kk * 7)).block, (ad.add (kk * 7)).off + 5, none⟩ = some (.int .i64 p.f3) ∧ W.cell? ⟨(ad.add (kk * 7)).block, (ad.add (kk * 7)).off + 6, none⟩ = some (.slice A3 p.f4.length c3))
theorem HsS.step {w : World} {t : S27} {A : Option Addr} {c : Nat} {B : Option Addr} {d : Nat} {kk : Nat} {p : S27} {ad : Addr} {A2 : Option Addr} {c2 : Nat} {A3 : Option Addr} {c3 : Nat} {W W' : World} (h : HsS w t A c B d kk p ad A2 c2 A3 c3 W) (hb : Below W.heap.size W W') : HsS w t A c B d kk p ad A2 c2 A3 c3 W' := by
  obtain ⟨h, h2, p0, p1, p2, p3, p4, p5, p6⟩ := h
  exact ⟨h.step hb, below_step h2 hb, pw_cell_below hb p0, pw_cell_below hb p1, pw_cell_below hb p2, pw_cell_below hb p3, pw_cell_below hb p4, pw_cell_below hb p5, pw_cell_below hb p6⟩
set_option maxHeartbeats 4000000 in
set_option maxRecDepth 100000 in
theorem rhasM_calls (l : List S27) (t : S27) (hfl : ∀ x, x ∈ l → fitM x) (L : Option Addr) (cl : Nat) (A : Option Addr) (c : Nat) (B : Option Addr) (d : Nat) (w : World) (hL : k27.C w L l.length l) (hcl : l.length ≤ cl) (ht : RdM w t A c B d) : Calls Try.prog 49 #[.slice L l.length cl, .agg #[.int .u8 t.f0, .string t.f1, .bool t.f2.f0, .string t.f2.f1, .slice A t.f2.f2.length c, .int .i64 t.f3, .slice B t.f4.length d]] w fun e w' => e = .returned (.bool (hasM l t)) ∧ Below w.heap.size w w' := by
  have hb0 := below_one (w := w) (.cells #[.int .u8 t.f0, .string t.f1, .bool t.f2.f0, .string t.f2.f1, .slice A t.f2.f2.length c, .int .i64 t.f3, .slice B t.f4.length d] 27)
  have BX := blk_new w (.cells #[.int .u8 t.f0, .string t.f1, .bool t.f2.f0, .string t.f2.f1, .slice A t.f2.f2.length c, .int .i64 t.f3, .slice B t.f4.length d] 27)
  have hm : (l.length : Int) ≤ 9223372036854775807 := by have := hL.2.1; omega
  have hV := Aside0.mk (Kd.V_mk (e := 27) (base := 0) hcl (Kd.C_F k27_heap hL))
  have HT := Aside0.mk ht
  have HFL := Aside0.mk hfl
  obtain ⟨x0, x1, x2, x3, x4, x5, x6⟩ := box7 BX
  have h00 : hasM (l.take 0) t = false := rfl
  clear hL ht hfl hcl
  go_enter Try.func49, Try.ntmps49
  go_wp2_with fail
  go_loopg [5] l.length (fun gg v5 wr => ∃ kk : Nat, kk ≤ l.length ∧ gg + kk = l.length ∧ v5 = .int .i64 (kk : Int) ∧ hasM (l.take kk) t = false ∧ Aside0 (Below w.heap.size w wr ∧ BxM wr w.heap.size t A c B d))
  case atStart => exact ⟨0, by omega, by omega, rfl, h00, ⟨hb0, box7 BX⟩⟩
  case round =>
    obtain ⟨kk, hk1, hk2, rfl, hno, HN⟩ := hrel
    have HNO := Lib.hid hno
    clear hno h00 x0 x1 x2 x3 x4 x5 x6 BX hb0
    obtain ⟨hb, x0, x1, x2, x3, x4, x5, x6⟩ := id HN.out
    by_cases hkk : kk < l.length
    · have q0 : decide (kk < l.length) = true := decide_eq_true hkk
      obtain ⟨ad, A2, c2, A3, c3, e1, ⟨p0, p1, p2, p3, p4, p5, p6⟩, hE⟩ := tm_elem hV.out kk hkk
      rw [rdM l kk hkk] at p0 p1 p2 p3 p4 p5 p6 hE
      have hff := HFL.out _ (List.getElem_mem hkk)
      have htk : hasM (l.take (kk + 1)) t = (cmpM l[kk] t == 0) := by
        have := HNO.out
        unfold hasM at this ⊢
        rw [List.take_succ_eq_append_getElem hkk, List.any_append, this]
        simp
      have hin : l[kk] ∈ l := List.getElem_mem hkk
      have hhas : (cmpM l[kk] t == 0) = true → hasM l t = true := fun h => by unfold hasM; exact List.any_eq_true.2 ⟨_, hin, h⟩
      generalize l[kk] = p at *
      have HTK := Lib.hid htk
      have HHAS := Aside0.mk hhas
      clear htk hhas hin
      have hK : HsS w t A c B d kk p ad A2 c2 A3 c3 wr := ⟨HN.out.2, hb, pw_cell_below hb p0, pw_cell_below hb p1, pw_cell_below hb p2, pw_cell_below hb p3, pw_cell_below hb p4, pw_cell_below hb p5, pw_cell_below hb p6⟩
      have hcall : ∀ W, HsS w t A c B d kk p ad A2 c2 A3 c3 W → Calls Try.prog 38 #[.agg #[.int .u8 p.f0, .string p.f1, .bool p.f2.f0, .string p.f2.f1, .slice A2 p.f2.f2.length c2, .int .i64 p.f3, .slice A3 p.f4.length c3], .agg #[.int .u8 t.f0, .string t.f1, .bool t.f2.f0, .string t.f2.f1, .slice A t.f2.f2.length c, .int .i64 t.f3, .slice B t.f4.length d]] W fun e w' => e = .returned (.bool (cmpM p t == 0)) ∧ HsS w t A c B d kk p ad A2 c2 A3 c3 w' := fun W hW => (rsameM_tr p t hff _ _ W ⟨_, _, _, _, rfl, hE.rd.later hW.2.1⟩ ⟨_, _, _, _, rfl, HT.out.later hW.2.1⟩).mono (fun _ _ h => And.intro h.1 (hW.step h.2))
      cases e1
      clear p0 p1 p2 p3 p4 p5 p6 hE hff
      have hN0 := hK.step (below_drew1 (Below.refl wr.heap.size wr))
      obtain ⟨_, _, p0, p1, p2, p3, p4, p5, p6⟩ := id hK
      cases hq : (cmpM p t == 0) with
      | true =>
        rw [hq] at hcall
        have HQ := Lib.hid hq
        clear hq
        go_wp2_with fail
        clear p0 p1 p2 p3 p4 p5 p6 x0 x1 x2 x3 x4 x5 x6
        go_region_held3 (fun W => HsS w t A c B d kk p ad A2 c2 A3 c3 W)
          (first | (with_reducible exact hN0) | (with_reducible assumption))
          (first | (go_at_call 38; (with_reducible refine (hcall _ (by with_reducible assumption)).mono ?_); rintro e W1 ⟨rfl, hN⟩))
        go_wp2_with fail
        go_ret
        exact ⟨by rw [HHAS.out HQ.out]; rfl, hN.2.1⟩
      | false =>
        rw [hq] at hcall
        have HQ := Lib.hid hq
        clear hq
        go_wp2_with fail
        clear p0 p1 p2 p3 p4 p5 p6 x0 x1 x2 x3 x4 x5 x6
        go_region_held3 (fun W => HsS w t A c B d kk p ad A2 c2 A3 c3 W)
          (first | (with_reducible exact hN0) | (with_reducible assumption))
          (first | (go_at_call 38; (with_reducible refine (hcall _ (by with_reducible assumption)).mono ?_); rintro e W1 ⟨rfl, hN⟩))
        go_wp2_with fail
        go_roundg (l.length - kk - 1)
        case measure => omega
        case rel => exact ⟨kk + 1, by omega, by omega, by simp <;> exact w64s (by omega), by rw [HTK.out]; exact HQ.out, ⟨hN.2.1, hN.1⟩⟩
    · have q0 : decide (kk < l.length) = false := decide_eq_false hkk
      obtain rfl : kk = l.length := by omega
      go_wp2_with fail
      go_ret
      have hno := HNO.out
      rw [List.take_length] at hno
      exact ⟨by rw [hno]; rfl, hb⟩
end Go.Proofs.Ytecplbgdalchdaa.Q
