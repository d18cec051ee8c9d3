/- Proved here: parts of the proof of a given statement (HRowTypesVars): contracts of the functions that it reaches, what they answer, and in the last text the statement itself. Conditions: those that each theorem names. -/
import Derived.Test.YtgnklkmifcmlhaaZTvX7
import Derived.Test.YtgnklkmifcmlhaaZTvX9
import Derived.Test.YtgnklkmifcmlhaaZTvX3
import Derived.Test.YtgnklkmifcmlhaaZTvX8
import Derived.Test.YtgnklkmifcmlhaaZTvX6
/- Proved here: the laws' alive returns true. Conditions: none. -/
namespace Go.Proofs.Ytgnklkmifcmlhaa.Q
open Go.RowKit Go.Shelf Go.Proofs.YtgnklkmifcmlhaaW.PrintWords Go.Proofs.YtgnklkmifcmlhaaW.PrintMore
set_option linter.unusedVariables false
set_option linter.unusedSimpArgs false
attribute [local go_sem] Oper.semAt_some

def vA : ByteArray := ⟨#[39, 97]⟩
def vB : ByteArray := ⟨#[39, 98]⟩
def tA : S25 := ⟨true, vA, []⟩
def tB : S25 := ⟨true, vB, []⟩
def tBool : S25 := ⟨false, boolN, []⟩
def tFn (x y : S25) : S25 := ⟨false, funN, [x, y]⟩
set_option maxRecDepth 100000 in
theorem al_vars : varsF (tFn tB (tFn tA tB)) = ([vB, vA], 0) := by kernel_rfl
set_option maxRecDepth 100000 in
theorem al_inst : instF [⟨vA, tBool⟩, ⟨vB, tA⟩] (tFn tA tB) = (tFn tBool tA, 0) := by kernel_rfl
set_option maxRecDepth 100000 in
theorem al_match1 : matchF (tFn tA tA) (tFn tBool tBool) [] = ([⟨vA, tBool⟩], true, 0) := by kernel_rfl
set_option maxRecDepth 100000 in
theorem al_match2 : matchF (tFn tA tA) (tFn tBool tB) [] = ([], false, 0) := by kernel_rfl
theorem fit_leaf (v : Bool) (n : ByteArray) (h : n.size ≤ 4611686018427387904) : fit ⟨v, n, []⟩ := ⟨by simp [szT, szL], by simp [allT, allL, okS, h]⟩
theorem fit_fn {x y : S25} (hx : fit x) (hy : fit y) (h : szT x + szT y ≤ 1000) : fit (tFn x y) := ⟨by simp only [tFn, szT, szL]; omega, by
  have h1 := hx.2
  have h2 := hy.2
  simp only [tFn, allT, allL]
  exact ⟨by unfold okS; decide, h1, h2, trivial⟩⟩
theorem fit_tA : fit tA := fit_leaf _ _ (by decide)
theorem fit_tB : fit tB := fit_leaf _ _ (by decide)
theorem fit_tBool : fit tBool := fit_leaf _ _ (by decide)

abbrev AlS (w : World) (g : Nat) (A : Option Addr) (c : Nat) (W : World) : Prop :=
  W.cell? ⟨g, 0, none⟩ = some (.bool false) ∧ W.cell? ⟨g, 1, none⟩ = some (.string funN) ∧ W.cell? ⟨g, 2, none⟩ = some (.slice A 2 c) ∧ Below w.heap.size w W
theorem AlS.step {w : World} {g : Nat} {A : Option Addr} {c : Nat} {W W' : World} (h : AlS w g A c W) (hb : Below W.heap.size W W') : AlS w g A c W' :=
  ⟨pw_cell_below hb h.1, pw_cell_below hb h.2.1, pw_cell_below hb h.2.2.1, below_step h.2.2.2 hb⟩
set_option maxHeartbeats 4000000 in
set_option maxRecDepth 100000 in
theorem alive_calls (w : World) : Calls Try.prog 40 #[] w fun e w' => e = .returned (.bool true) ∧ Below w.heap.size w w' := by
  have hfun := fun x y a b W (ha : Tr W a x) (hb : Tr W b y) (h : szT x + szT y ≤ 1000) => fun_tr x y a b W ha hb (by omega) (by omega)
  have hfun2 := hfun
  have hvars : ∀ a W, Tr W a (tFn tB (tFn tA tB)) → Calls Try.prog 23 #[a] W fun e w' => ∃ A c, e = .returned (.tuple #[.slice A 2 c, .int .i64 0]) ∧ 2 ≤ c ∧ Kd.C Kd.string w' A [vB, vA].length [vB, vA] ∧ Below W.heap.size W w' := by
    intro a W ha
    have h := vars_tr _ a W ha (fit_fn fit_tB (fit_fn fit_tA fit_tB (by decide)) (by decide))
    rw [al_vars] at h
    exact h
  have hinst : ∀ A0 c0 a W, k59.C W A0 2 [⟨vA, tBool⟩, ⟨vB, tA⟩] → 2 ≤ c0 → Tr W a (tFn tA tB) → Calls Try.prog 16 #[.slice A0 2 c0, a] W fun e w' => ∃ A c, e = .returned (.tuple #[.agg #[.bool false, .string funN, .slice A 2 c], .int .i64 0]) ∧ 2 ≤ c ∧ Tr w' (.agg #[.bool false, .string funN, .slice A 2 c]) (tFn tBool tA) ∧ Below W.heap.size W w' := by
    intro A0 c0 a W hs hc ha
    have h := inst_tr [⟨vA, tBool⟩, ⟨vB, tA⟩] _ A0 c0 a W hs hc ha (fun b hb => by
      simp only [List.mem_cons, List.not_mem_nil, or_false] at hb
      rcases hb with rfl | rfl
      · exact ⟨by unfold okS; decide, fit_tBool⟩
      · exact ⟨by unfold okS; decide, fit_tA⟩) (fit_fn fit_tA fit_tB (by decide))
    rw [al_inst] at h
    refine h.mono ?_
    rintro e w' ⟨r, rfl, ⟨A, c, rfl, hl, hC⟩, hb⟩
    exact ⟨A, c, rfl, hl, ⟨A, c, rfl, hl, hC⟩, hb⟩
  have hmat1 : ∀ a b W, Tr W a (tFn tA tA) → Tr W b (tFn tBool tBool) → Calls Try.prog 20 #[a, b, .slice none 0 0] W (MatchRes W ([⟨vA, tBool⟩], true, 0)) := by
    intro a b W ha hb
    have h := match_tr _ _ [] a b none 0 W ha hb (nilB _ _) (Nat.le_refl _) (fit_fn fit_tA fit_tA (by decide)) (fit_fn fit_tBool fit_tBool (by decide)) (fun b hb => by simp at hb) (by simp)
    rw [al_match1] at h
    exact h
  have hmat2 : ∀ a b W, Tr W a (tFn tA tA) → Tr W b (tFn tBool tB) → Calls Try.prog 20 #[a, b, .slice none 0 0] W (MatchRes W ([], false, 0)) := by
    intro a b W ha hb
    have h := match_tr _ _ [] a b none 0 W ha hb (nilB _ _) (Nat.le_refl _) (fit_fn fit_tA fit_tA (by decide)) (fit_fn fit_tBool fit_tB (by decide)) (fun b hb => by simp at hb) (by simp)
    rw [al_match2] at h
    exact h
  have hsame : ∀ a b W, Tr W a (tFn tBool tA) → Tr W b (tFn tBool tA) → Calls Try.prog 35 #[a, b] W fun e w' => e = .returned (.bool true) ∧ Below W.heap.size W w' := by
    intro a b W ha hb
    have h := same_tr _ _ a b W ha hb
    rw [cmpT_self] at h
    exact h
  obtain ⟨ks, hks⟩ := (samestrs_ev [vB, vA] (by simp)).at
  obtain ⟨kb, hkb⟩ := (samebinds_ev [⟨vA, tBool⟩] (by simp) (fun b hb => by rw [List.mem_singleton.1 hb]; decide)).at
  have hss := fun A1 c1 A2 c2 W h1 l1 h2 l2 => sequentref01_SameStrings.calls ks A1 c1 [vB, vA] A2 c2 [vB, vA] true W h1 l1 h2 l2 hks
  have hsb := fun A1 c1 A2 c2 W h1 l1 h2 l2 => sequentref01_SameBinds.calls kb A1 c1 [⟨vA, tBool⟩] A2 c2 [⟨vA, tBool⟩] true W h1 l1 h2 l2 hkb
  clear hks hkb
  have hb : Below w.heap.size w w := Below.refl _ _
  go_enter Try.func40, Try.ntmps40
  go_wp2_with (first
    | (go_at_call 43; (with_reducible refine (v_calls _ _).mono ?_); rintro e W1 ⟨rfl, hc⟩; have hM := Kd.C_below (RowB.C (lit_binds2 _ 0 (Nat.zero_le _) vA boolN vB vA false true)) hc; have hc := below_step (below_one _) hc; have hb := below_step hb hc; (try have hL := Kd.C_below hL hc); (try have hT := hT.later hc); (try have hS := hS.later hc); (try have hQ := Kd.C_below hQ hc); (try have hR := hR.later hc); (try have BR := blk_below BR hc); (try (have bx := box3s BR; obtain ⟨x0, x1, x2, x3, x4, x5, x6⟩ := bx)))
    | (go_at_call 43; (with_reducible refine (v_calls _ _).mono ?_); rintro e W1 ⟨rfl, hc⟩; have hb := below_step hb hc; (try have hL := Kd.C_below hL hc); (try have hT := hT.later hc); (try have hS := hS.later hc); (try have hM := Kd.C_below hM hc); (try have hQ := Kd.C_below hQ hc); (try have hR := hR.later hc); (try have BR := blk_below BR hc); (try (have bx := box3s BR; obtain ⟨x0, x1, x2, x3, x4, x5, x6⟩ := bx)))
    | (go_at_call 38; (with_reducible refine (bool_calls _).mono ?_); rintro e W1 ⟨rfl, hc⟩; have hb := below_step hb hc; (try have hL := Kd.C_below hL hc); (try have hT := hT.later hc); (try have hS := hS.later hc); (try have hM := Kd.C_below hM hc); (try have hQ := Kd.C_below hQ hc); (try have hR := hR.later hc); (try have BR := blk_below BR hc); (try (have bx := box3s BR; obtain ⟨x0, x1, x2, x3, x4, x5, x6⟩ := bx)))
    | (go_at_call 36; refine (hfun _ _ _ _ _ (by first | exact Tr.leaf _ _ _ | exact hT | exact hS) (by first | exact Tr.leaf _ _ _ | exact hT | exact hS) (by decide)).mono ?_; rintro e W1 ⟨r, rfl, hN, hc⟩; have hb := below_step hb hc; (try have hL := Kd.C_below hL hc); (try have hT := hT.later hc); (try have hS := hS.later hc); (try have hM := Kd.C_below hM hc); (try have hQ := Kd.C_below hQ hc); (try have hR := hR.later hc); (try have BR := blk_below BR hc); (try (have bx := box3s BR; obtain ⟨x0, x1, x2, x3, x4, x5, x6⟩ := bx)); (try have hS := hT); have hT := hN; clear hN)
    | (go_at_call 23; refine (hvars _ _ hT).mono ?_; rintro e W1 ⟨A1, c1, rfl, hl1, hN, hc⟩; have hb := below_step hb hc; (try have hL := Kd.C_below hL hc); (try have hT := hT.later hc); (try have hS := hS.later hc); (try have hM := Kd.C_below hM hc); (try have hQ := Kd.C_below hQ hc); (try have hR := hR.later hc); (try have BR := blk_below BR hc); (try (have bx := box3s BR; obtain ⟨x0, x1, x2, x3, x4, x5, x6⟩ := bx)); have hL := hN)
    | (go_at_call 16; refine (hinst _ _ _ _ hM (by omega) hT).mono ?_; rintro e Wt ⟨A3, c3, rfl, hl3, hN, hc⟩; have hb := below_step hb hc; (try have hL := Kd.C_below hL hc); (try have hT := hT.later hc); (try have hS := hS.later hc); (try have hM := Kd.C_below hM hc); (try have hQ := Kd.C_below hQ hc); (try have hR := hR.later hc); (try have BR := blk_below BR hc); (try (have bx := box3s BR; obtain ⟨x0, x1, x2, x3, x4, x5, x6⟩ := bx)); have hc := below_one (w := Wt) (.cells #[.bool false, .string funN, .slice A3 2 c3] 25); have hb := below_step hb hc; have hL := Kd.C_below hL hc; have hR := hN.later hc; have BR := blk_new Wt (.cells #[.bool false, .string funN, .slice A3 2 c3] 25))
    | (go_at_call 20; refine (hmat1 _ _ _ hS hT).mono ?_; rintro e W1 ⟨A2, c2, rfl, hl2, hN, hc⟩; dsimp only at hl2 hN; have hb := below_step hb hc; (try have hL := Kd.C_below hL hc); (try have hT := hT.later hc); (try have hS := hS.later hc); (try have hM := Kd.C_below hM hc); (try have hR := hR.later hc); (try have hQ := Kd.C_below hQ hc); (try have BR := blk_below BR hc); (try (have bx := box3s BR; obtain ⟨x0, x1, x2, x3, x4, x5, x6⟩ := bx)); have hQ := hN; have hlq := hl2)
    | (go_at_call 20; refine (hmat2 _ _ _ hS hT).mono ?_; rintro e W1 ⟨A4, c4, rfl, _, _, hc⟩; have hb := below_step hb hc; (try have hL := Kd.C_below hL hc); (try have hT := hT.later hc); (try have hS := hS.later hc); (try have hM := Kd.C_below hM hc); (try have hQ := Kd.C_below hQ hc); (try have hR := hR.later hc); (try have BR := blk_below BR hc); (try (have bx := box3s BR; obtain ⟨x0, x1, x2, x3, x4, x5, x6⟩ := bx))))
  have hc := below_drew1 (Below.refl W1.heap.size W1)
  have hb := below_step hb hc
  have hL := Kd.C_below hL hc
  have hQ := Kd.C_below hQ hc
  have hR := hR.later hc
  have BR := blk_below BR hc
  obtain ⟨x0, x1, x2, x3, x4, x5, x6⟩ := box3s BR
  have hK0 : AlS w Wt.heap.size A3 c3 W1.drew := ⟨x0, x1, x2, hb⟩
  clear hfun hvars hinst hmat1 hmat2 hT hS hN hM
  go_region_held3 (fun W => AlS w Wt.heap.size A3 c3 W)
    (first | (with_reducible exact hK0) | (with_reducible assumption) | (with_reducible exact AlS.step (by with_reducible assumption) (below_one _)))
    (first
      | (go_at_call 43; (with_reducible refine (v_calls _ _).mono ?_); rintro e W1 ⟨rfl, hc⟩; have hb := below_step hb hc; (try have hL := Kd.C_below hL hc); (try have hT := hT.later hc); (try have hS := hS.later hc); (try have hQ := Kd.C_below hQ hc); (try have hR := hR.later hc); (try have BR := blk_below BR hc); (try (have bx := box3s BR; obtain ⟨x0, x1, x2, x3, x4, x5, x6⟩ := bx)); have hK : AlS w Wt.heap.size A3 c3 W1 := ⟨x0, x1, x2, hb⟩)
      | (go_at_call 38; (with_reducible refine (bool_calls _).mono ?_); rintro e W1 ⟨rfl, hc⟩; have hb := below_step hb hc; (try have hL := Kd.C_below hL hc); (try have hT := hT.later hc); (try have hS := hS.later hc); (try have hQ := Kd.C_below hQ hc); (try have hR := hR.later hc); (try have BR := blk_below BR hc); (try (have bx := box3s BR; obtain ⟨x0, x1, x2, x3, x4, x5, x6⟩ := bx)); have hK : AlS w Wt.heap.size A3 c3 W1 := ⟨x0, x1, x2, hb⟩)
      | (go_at_call 36; refine (hfun2 _ _ _ _ _ (by first | exact Tr.leaf _ _ _ | exact hT) (by first | exact Tr.leaf _ _ _ | exact hT) (by decide)).mono ?_; rintro e W1 ⟨r, rfl, hN, hc⟩; have hb := below_step hb hc; (try have hL := Kd.C_below hL hc); (try have hT := hT.later hc); (try have hS := hS.later hc); (try have hQ := Kd.C_below hQ hc); (try have hR := hR.later hc); (try have BR := blk_below BR hc); (try (have bx := box3s BR; obtain ⟨x0, x1, x2, x3, x4, x5, x6⟩ := bx)); have hT := hN; have hK : AlS w Wt.heap.size A3 c3 W1 := ⟨x0, x1, x2, hb⟩)
      | (go_at_call 32; refine (hss _ _ _ _ _ (Kd.C_below hL (below_one _)) hl1 (lit_strs2 _ _ _) (Nat.le_refl _)).mono ?_; rintro e W1 ⟨rfl, hd⟩; have hc := below_step (below_one _) hd.below; have hb := below_step hb hc; (try have hL := Kd.C_below hL hc); (try have hT := hT.later hc); (try have hS := hS.later hc); (try have hQ := Kd.C_below hQ hc); (try have hR := hR.later hc); (try have BR := blk_below BR hc); (try (have bx := box3s BR; obtain ⟨x0, x1, x2, x3, x4, x5, x6⟩ := bx)); have hK : AlS w Wt.heap.size A3 c3 W1 := ⟨x0, x1, x2, hb⟩)
      | (go_at_call 35; refine (hsame _ _ _ hR hT).mono ?_; rintro e W1 ⟨rfl, hc⟩; have hb := below_step hb hc; (try have hL := Kd.C_below hL hc); (try have hT := hT.later hc); (try have hS := hS.later hc); (try have hQ := Kd.C_below hQ hc); (try have hR := hR.later hc); (try have BR := blk_below BR hc); (try (have bx := box3s BR; obtain ⟨x0, x1, x2, x3, x4, x5, x6⟩ := bx)); have hK : AlS w Wt.heap.size A3 c3 W1 := ⟨x0, x1, x2, hb⟩)
      | (go_at_call 22; refine (hsb _ _ _ _ _ (Kd.C_below hQ (below_one _)) hlq (RowB.C (lit_binds1 _ 0 (Nat.zero_le _) vA boolN false)) (Nat.le_refl _)).mono ?_; rintro e W1 ⟨rfl, hc⟩; have hc := below_step (below_one _) hc; have hb := below_step hb hc; (try have hL := Kd.C_below hL hc); (try have hT := hT.later hc); (try have hS := hS.later hc); (try have hQ := Kd.C_below hQ hc); (try have hR := hR.later hc); (try have BR := blk_below BR hc); (try (have bx := box3s BR; obtain ⟨x0, x1, x2, x3, x4, x5, x6⟩ := bx)); have hK : AlS w Wt.heap.size A3 c3 W1 := ⟨x0, x1, x2, hb⟩))
  clear hfun2 hss hsb hsame hR hL hQ hT hK0
  go_wp2
  go_ret
  exact ⟨rfl, hb⟩
def sequentlaw01_alive.f : Option Bool := some true
theorem sequentlaw01_alive.calls (r : Bool) (w : World) (h : sequentlaw01_alive.f = some r) : Calls Try.prog 40 #[] w fun e w' => e = .returned (.bool r) ∧ Below w.heap.size w w' := by
  unfold sequentlaw01_alive.f at h
  injection h with h
  subst h
  exact alive_calls w
end Go.Proofs.Ytgnklkmifcmlhaa.Q
-- written by a program of this session (wip/tools/myprint.py) out of the translation
namespace Go.Proofs.Ytgnklkmifcmlhaa.Q
open Go.RowKit Go.Proofs.YtgnklkmifcmlhaaW.PrintWords Go.Proofs.YtgnklkmifcmlhaaW.PrintLast Go.Proofs.YtgnklkmifcmlhaaW.PrintMore
attribute [local go_sem] max2_int min2_int max_two min_two max_three min_three max_four min_four   -- for this text's walks alone
set_option linter.unusedVariables false
set_option linter.unusedSimpArgs false

/-! ### sequentlaw01_TypesVars: function 8 -/
mutual
def sequentlaw01_TypesVars.j0 : Nat → List (S59) → Bool → List ByteArray → Int → Bool → Bool → ByteArray → List (S25) → Option (Bool)
  | 0, _, _, _, _, _, _, _, _ => none
  | k + 1, x1, x5, x6, x7, x36, x505000, x505001, x505002 => if x36 = true then (if x5 = true then (if x7 = 0 then (some true) else (some ((x6.length : Int) == 0))) else (some false)) else (sequentlaw01_TypesVars.l0 k x1 x5 x6 ([] : List (S59)) 0 x505000 x505001 x505002)
def sequentlaw01_TypesVars.l0 : Nat → List (S59) → Bool → List ByteArray → List (S59) → Int → Bool → ByteArray → List (S25) → Option (Bool)
  | 0, _, _, _, _, _, _, _, _ => none
  | k + 1, x1, x5, x6, x8, x9, x505000, x505001, x505002 => if x9 < (x6.length : Int) then (if 0 ≤ x9 then (if x9 ≤ (x6.length : Int) then ((sequentref01_In.f k (x6.take (x9 : Int).toNat) (rdOf ByteArray.empty x6 x9)).bind fun t517 => (if t517 = true then (some false) else ((types_Bool.f).bind fun bt519 => (if x8.length < 2199023255552 then (sequentlaw01_TypesVars.l0 k x1 x5 x6 (x8 ++ [(⟨rdOf ByteArray.empty x6 x9, (⟨bt519.1, bt519.2.1, bt519.2.2⟩ : S25)⟩ : S59)]) (wrap64 (x9 + 1)) x505000 x505001 x505002) else (none))))) else (none)) else (none)) else ((types_Inst.f k x8 x505000 x505001 x505002).bind fun bt527 => ((types_Vars.f k bt527.1 bt527.2.1 bt527.2.2.1).bind fun bt534 => (if bt527.2.2.2 = 0 then (if bt534.2 = 0 then (if (bt534.1.length : Int) = 0 then ((types_Size.f k bt527.1 bt527.2.1 bt527.2.2.1).bind fun t538 => ((types_Size.f k x505000 x505001 x505002).bind fun t539 => (sequentlaw01_TypesVars.j2 k x1 x5 x6 (t538 != t539) x505000 x505001 x505002))) else (sequentlaw01_TypesVars.j2 k x1 x5 x6 true x505000 x505001 x505002)) else (sequentlaw01_TypesVars.j2 k x1 x5 x6 true x505000 x505001 x505002)) else (sequentlaw01_TypesVars.j2 k x1 x5 x6 true x505000 x505001 x505002))))
def sequentlaw01_TypesVars.j2 : Nat → List (S59) → Bool → List ByteArray → Bool → Bool → ByteArray → List (S25) → Option (Bool)
  | 0, _, _, _, _, _, _, _ => none
  | k + 1, x1, x5, x6, x98, x505000, x505001, x505002 => if x98 = true then (some false) else (sequentlaw01_TypesVars.l1 k x1 x5 x6 0 x505000 x505001 x505002)
def sequentlaw01_TypesVars.l1 : Nat → List (S59) → Bool → List ByteArray → Int → Bool → ByteArray → List (S25) → Option (Bool)
  | 0, _, _, _, _, _, _, _ => none
  | k + 1, x1, x5, x6, x14, x505000, x505001, x505002 => if x14 < (x1.length : Int) then (if 0 ≤ x14 then ((sequentref01_In.f k x6 ((rd_T59 x1 x14).f0)).bind fun t541 => (if t541 = true then (some x5) else (sequentlaw01_TypesVars.l1 k x1 x5 x6 (wrap64 (x14 + 1)) x505000 x505001 x505002))) else (none)) else ((types_Inst.f k x1 x505000 x505001 x505002).bind fun bt542 => (if x5 = true then (if bt542.2.2.2 = 0 then ((types_Same.f bt542.1 bt542.2.1 bt542.2.2.1 x505000 x505001 x505002).bind fun t549 => (if t549 = true then (some true) else (some (bt542.2.2.2 == 10)))) else (some (bt542.2.2.2 == 10))) else (some false)))
end
def sequentlaw01_TypesVars.f (k : Nat) (a0_0 : Bool) (a0_1 : ByteArray) (l0_2 : List (S25)) (l1 : List (S59)) : Option (Bool) := (sequentlaw01_alive.f).bind fun t505 => ((types_Vars.f k a0_0 a0_1 l0_2).bind fun bt506 => ((sequentref01_Great.f k a0_0 a0_1 l0_2).bind fun t510 => (if t510 = true then (sequentlaw01_TypesVars.j0 k l1 t505 bt506.1 bt506.2 true a0_0 a0_1 l0_2) else ((sequentref01_GreatBinds.f k l1).bind fun t511 => (if t511 = true then (sequentlaw01_TypesVars.j0 k l1 t505 bt506.1 bt506.2 true a0_0 a0_1 l0_2) else (if bt506.2 = 0 then (sequentlaw01_TypesVars.j0 k l1 t505 bt506.1 bt506.2 (!t505) a0_0 a0_1 l0_2) else (sequentlaw01_TypesVars.j0 k l1 t505 bt506.1 bt506.2 true a0_0 a0_1 l0_2)))))))
def sequentlaw01_TypesVars.T9 : Bool × List (List Nat × List Nat) := (true, [([], []), ([], []), ([0, 1], [0, 1]), ([], []), ([], []), ([3, 4], [3, 4]), ([5], [5]), ([2, 6], [2, 6])])
def sequentlaw01_TypesVars.B9 : List Nat := [0, 0, 3, 0, 0, 24, 56, 127]
theorem sequentlaw01_TypesVars.tab9 : rtab .any (opsOf Try.f8 9) = sequentlaw01_TypesVars.T9 := by kernel_rfl
theorem sequentlaw01_TypesVars.bits9 : waitsOk sequentlaw01_TypesVars.T9.2 sequentlaw01_TypesVars.B9 = true := by kernel_rfl
def sequentlaw01_TypesVars.T11 : Bool × List (List Nat × List Nat) := (true, [([], []), ([], []), ([], []), ([1, 2], [1, 2]), ([3], [3]), ([], []), ([4, 5], [4, 5]), ([6], [6]), ([0, 7, 5], [0, 7]), ([8, 8, 0, 1, 2, 3, 4, 5, 6, 7, 8], [0, 8])])
def sequentlaw01_TypesVars.B11 : List Nat := [0, 0, 0, 6, 14, 0, 62, 126, 255, 511]
theorem sequentlaw01_TypesVars.tab11 : rtab .any (opsOf Try.f8 11) = sequentlaw01_TypesVars.T11 := by kernel_rfl
theorem sequentlaw01_TypesVars.bits11 : waitsOk sequentlaw01_TypesVars.T11.2 sequentlaw01_TypesVars.B11 = true := by kernel_rfl
def sequentlaw01_TypesVars.T14 : Bool × List (List Nat × List Nat) := (true, [([], []), ([0], [0]), ([1], [1]), ([2], [2]), ([3, 2], [2, 3]), ([2, 4], [2, 4]), ([5, 2], [5]), ([6], [6]), ([7, 6], [6, 7]), ([8, 6], [6, 8]), ([6, 9], [6, 9]), ([10, 6], [10]), ([11], [11]), ([12, 11, 11], [11, 12]), ([11], [11]), ([14, 13, 11], [11, 14]), ([13, 15, 11], [11, 13, 15]), ([11, 16], [11, 16])])
def sequentlaw01_TypesVars.B14 : List Nat := [0, 1, 3, 7, 15, 31, 63, 127, 255, 511, 1023, 2047, 4095, 8191, 4095, 32767, 65535, 131071]
theorem sequentlaw01_TypesVars.tab14 : rtab .any (opsOf Try.f8 14) = sequentlaw01_TypesVars.T14 := by kernel_rfl
theorem sequentlaw01_TypesVars.bits14 : waitsOk sequentlaw01_TypesVars.T14.2 sequentlaw01_TypesVars.B14 = true := by kernel_rfl
set_option maxHeartbeats 8000000 in
set_option maxRecDepth 100000 in
theorem sequentlaw01_TypesVars.calls (k : Nat) (a0_0 : Bool) (a0_1 : ByteArray) (A0_2 : Option Addr) (c0_2 : Nat) (l0_2 : List (S25)) (A1 : Option Addr) (c1 : Nat) (l1 : List (S59)) (r : Bool) (w : World) (hr0_2 : Kd.C k25 w A0_2 l0_2.length l0_2) (hc0_2 : l0_2.length ≤ c0_2) (hr1 : Kd.C k59 w A1 l1.length l1) (hc1 : l1.length ≤ c1) (h : sequentlaw01_TypesVars.f k a0_0 a0_1 l0_2 l1 = some r) :
    Calls Try.prog 8 #[.agg #[.bool a0_0, .string a0_1, .slice A0_2 l0_2.length c0_2], .slice A1 l1.length c1] w fun e w' => e = .returned (.bool r) ∧ Below w.heap.size w w' := by
  have hu25 := Try.underlying25
  have hu59 := Try.underlying59
  have HR0_2 := Aside0.mk hr0_2
  have HC0_2 := Aside0.mk hc0_2
  clear hr0_2 hc0_2
  have HR1 := Aside0.mk hr1
  have HC1 := Aside0.mk hc1
  clear hr1 hc1
  have HB := Aside0.mk (Below.refl w.heap.size w)
  have H : ((sequentlaw01_alive.f).bind fun t505 => ((types_Vars.f k a0_0 a0_1 l0_2).bind fun bt506 => ((sequentref01_Great.f k a0_0 a0_1 l0_2).bind fun t510 => (if t510 = true then (sequentlaw01_TypesVars.j0 k l1 t505 bt506.1 bt506.2 true a0_0 a0_1 l0_2) else ((sequentref01_GreatBinds.f k l1).bind fun t511 => (if t511 = true then (sequentlaw01_TypesVars.j0 k l1 t505 bt506.1 bt506.2 true a0_0 a0_1 l0_2) else (if bt506.2 = 0 then (sequentlaw01_TypesVars.j0 k l1 t505 bt506.1 bt506.2 (!t505) a0_0 a0_1 l0_2) else (sequentlaw01_TypesVars.j0 k l1 t505 bt506.1 bt506.2 true a0_0 a0_1 l0_2)))))))) = some r := h
  clear h
  replace H := Option.bind_eq_some_iff.mp H
  obtain ⟨t505, A30, H⟩ := H
  replace H : ((types_Vars.f k a0_0 a0_1 l0_2).bind fun bt506 => ((sequentref01_Great.f k a0_0 a0_1 l0_2).bind fun t510 => (if t510 = true then (sequentlaw01_TypesVars.j0 k l1 t505 bt506.1 bt506.2 true a0_0 a0_1 l0_2) else ((sequentref01_GreatBinds.f k l1).bind fun t511 => (if t511 = true then (sequentlaw01_TypesVars.j0 k l1 t505 bt506.1 bt506.2 true a0_0 a0_1 l0_2) else (if bt506.2 = 0 then (sequentlaw01_TypesVars.j0 k l1 t505 bt506.1 bt506.2 (!t505) a0_0 a0_1 l0_2) else (sequentlaw01_TypesVars.j0 k l1 t505 bt506.1 bt506.2 true a0_0 a0_1 l0_2))))))) = some r := H
  have A3 := Aside0.mk A30
  clear A30
  replace H := Option.bind_eq_some_iff.mp H
  obtain ⟨⟨t506, t509⟩, A40, H⟩ := H
  replace H : ((sequentref01_Great.f k a0_0 a0_1 l0_2).bind fun t510 => (if t510 = true then (sequentlaw01_TypesVars.j0 k l1 t505 t506 t509 true a0_0 a0_1 l0_2) else ((sequentref01_GreatBinds.f k l1).bind fun t511 => (if t511 = true then (sequentlaw01_TypesVars.j0 k l1 t505 t506 t509 true a0_0 a0_1 l0_2) else (if t509 = 0 then (sequentlaw01_TypesVars.j0 k l1 t505 t506 t509 (!t505) a0_0 a0_1 l0_2) else (sequentlaw01_TypesVars.j0 k l1 t505 t506 t509 true a0_0 a0_1 l0_2)))))) = some r := H
  have A4 := Aside0.mk A40
  clear A40
  have HC5 := Aside0.mk H
  clear H
  go_enter Try.func8, Try.ntmps8
  go_upto_region 3 with (first | ((with_reducible refine gate_dst (N := 2) rfl ?_); (try (refine gate_guard (by rfl) ?_; dsimp only)); refine box_event ?hg (N := 2) ?hd (cs := #[.bool a0_0, .string a0_1, .slice A0_2 l0_2.length c0_2]) (t := 25) ?hr ?_; (case hd => rfl); (case hg => rfl); (case hr => first | (go_simp; done) | (go_simp; rfl)); intro gb504 hg w6 hbox hb; have n0_ := Aside0.mk (below_step bel_ hb); have n1_ := Aside0.mk (hbox); have n2_ := Aside0.mk ((by rw [hg]; exact (below_size bel_) : w.heap.size ≤ gb504)); have n3_ := Aside0.mk ((by rw [hg]; exact (below_size bel_) : w.heap.size ≤ gb504)); clear HB; have HB := n0_; have BK504 := n1_; have GW504 := n2_; have GE504 := n3_; clear n0_ n1_ n2_ n3_; clear hb hbox hg) | ((with_reducible refine gate_callee (f := 40) rfl ?_); refine goesL_ (some 17) rfl rfl Try.func40 (by kernel_rfl) rfl #[] rfl (by (try simp only [List.map_toArray, List.map_cons, List.map_nil]); first | done | rfl | (simp only [List.length_drop, List.length_take]; rfl)) ?_; (with_reducible refine (sequentlaw01_alive.calls  t505 _ A3.out).mono ?_); rintro e w7 ⟨rfl, hb⟩; refine ⟨_, rfl, ?_⟩; have n0_ := Aside0.mk (blk_below (g := gb504) (o := .cells #[.bool a0_0, .string a0_1, .slice A0_2 l0_2.length c0_2] 25 (0, 0)) (by (with_reducible repeat (first | refine blk_drewN ?_ _ | refine blk_drew ?_ | refine blk_alloc ?_ _)); exact BK504.out) hb); have n1_ := Aside0.mk (below_step bel_ hb); clear BK504; clear HB; have BK504 := n0_; have HB := n1_; clear n0_ n1_; (try clear hb); (try clear hb2); (try clear hk); (try clear hi); have hcz8_0 : w7.cell? ⟨gb504, 0, none⟩ = some (.bool a0_0) := (blk_cell BK504.out 0).trans rfl; have hcz8_1 : w7.cell? ⟨gb504, 1, none⟩ = some (.string a0_1) := (blk_cell BK504.out 1).trans rfl; have hcz8_2 : w7.cell? ⟨gb504, 2, none⟩ = some (.slice A0_2 l0_2.length c0_2) := (blk_cell BK504.out 2).trans rfl; have hfz8_0 := blk_frozen BK504.out 0; have hfz8_1 := blk_frozen BK504.out 1; have hfz8_2 := blk_frozen BK504.out 2) | ((with_reducible refine gate_callee (f := 23) rfl ?_); refine goesL_ (some 20) rfl rfl Try.func23 (by kernel_rfl) rfl #[.agg #[.bool a0_0, .string a0_1, .slice A0_2 l0_2.length c0_2]] rfl (by (try simp only [List.map_toArray, List.map_cons, List.map_nil]); first | done | rfl | (simp only [List.length_drop, List.length_take]; rfl)) ?_; (with_reducible refine (types_Vars.calls k a0_0 a0_1 _ _ l0_2 t506 t509 _ ?side1 ?side2 A4.out).mono ?_); (case side1 => repeat (first | exact (Kd.C_below HR0_2.out HB.out) | (with_reducible refine Kd.C_alloc ?_ _) | (with_reducible refine Kd.C_drewN ?_ _) | (with_reducible refine Kd.C_drew ?_))); (case side2 => exact HC0_2.out); rintro e w9 ⟨v507, rfl, ho0, hb⟩; refine ⟨_, rfl, ?_⟩; have n0_ := Aside0.mk (Kd.R_lower ho0 (below_size bel_)); have n1_ := Aside0.mk (blk_below (g := gb504) (o := .cells #[.bool a0_0, .string a0_1, .slice A0_2 l0_2.length c0_2] 25 (0, 0)) (by (with_reducible repeat (first | refine blk_drewN ?_ _ | refine blk_drew ?_ | refine blk_alloc ?_ _)); exact BK504.out) hb); have n2_ := Aside0.mk (below_step bel_ hb); clear BK504; clear HB; have HO508 := n0_; have BK504 := n1_; have HB := n2_; clear n0_ n1_ n2_; (try clear hb); (try clear hb2); (try clear hk); (try clear hi); (try clear ho0)))
  (try simp only [Act.put, List.setIfInBounds_toArray, List.set_cons_zero, List.set_cons_succ])
  go_cut [36] (fun v36 wc => ∃ (kq : Nat) (x36_4 : Bool), v36 = .bool x36_4 ∧ Aside0 (sequentlaw01_TypesVars.j0 kq l1 t505 t506 t509 x36_4 a0_0 a0_1 l0_2 = some r) ∧ Aside0 (kq ≤ k) ∧ Aside0 (Kd.R Kd.string 9 wc w.heap.size (fun _ => True) v507 t506) ∧ Aside0 (wc.heap[gb504]? = some (.cells #[.bool a0_0, .string a0_1, (.slice A0_2 l0_2.length c0_2)] 25 (0, 0))) ∧ Aside0 (Below w.heap.size w wc))
  case first =>
    have H := HC5.out
    clear HC5
    replace H := Option.bind_eq_some_iff.mp H
    obtain ⟨t510, A100, H⟩ := H
    replace H : (if t510 = true then (sequentlaw01_TypesVars.j0 k l1 t505 t506 t509 true a0_0 a0_1 l0_2) else ((sequentref01_GreatBinds.f k l1).bind fun t511 => (if t511 = true then (sequentlaw01_TypesVars.j0 k l1 t505 t506 t509 true a0_0 a0_1 l0_2) else (if t509 = 0 then (sequentlaw01_TypesVars.j0 k l1 t505 t506 t509 (!t505) a0_0 a0_1 l0_2) else (sequentlaw01_TypesVars.j0 k l1 t505 t506 t509 true a0_0 a0_1 l0_2))))) = some r := H
    have A10 := Aside0.mk A100
    clear A100
    by_cases c11 : t510 = true
    · subst c11
      have H1 : (sequentlaw01_TypesVars.j0 k l1 t505 t506 t509 true a0_0 a0_1 l0_2) = some r := by rw [if_pos rfl] at H; exact H
      clear H
      have H := H1
      clear H1
      have H' := Aside0.mk H
      clear H
      have hcz12_0 : w9.cell? ⟨gb504, 0, none⟩ = some (.bool a0_0) := (blk_cell BK504.out 0).trans rfl
      have hcz12_1 : w9.cell? ⟨gb504, 1, none⟩ = some (.string a0_1) := (blk_cell BK504.out 1).trans rfl
      have hcz12_2 : w9.cell? ⟨gb504, 2, none⟩ = some (.slice A0_2 l0_2.length c0_2) := (blk_cell BK504.out 2).trans rfl
      have hfz12_0 := blk_frozen BK504.out 0
      have hfz12_1 := blk_frozen BK504.out 1
      have hfz12_2 := blk_frozen BK504.out 2
      go_wp2_with (first | ((with_reducible refine gate_callee (f := 14) rfl ?_); refine goesL_ (some 24) rfl rfl Try.func14 (by kernel_rfl) rfl #[.agg #[.bool a0_0, .string a0_1, .slice A0_2 l0_2.length c0_2]] rfl (by (try simp only [List.map_toArray, List.map_cons, List.map_nil]); first | done | rfl | (simp only [List.length_drop, List.length_take]; rfl)) ?_; (with_reducible refine (sequentref01_Great.calls k a0_0 a0_1 _ _ l0_2 true _ ?side1 ?side2 A10.out).mono ?_); (case side1 => repeat (first | exact (Kd.C_below HR0_2.out HB.out) | (with_reducible refine Kd.C_alloc ?_ _) | (with_reducible refine Kd.C_drewN ?_ _) | (with_reducible refine Kd.C_drew ?_))); (case side2 => exact HC0_2.out); rintro e w13 ⟨rfl, hb⟩; refine ⟨_, rfl, ?_⟩; have n0_ := Aside0.mk (Kd.R_below (by (with_reducible repeat (first | apply Kd.R_alloc | apply Kd.R_drewN | apply Kd.R_drew)); exact HO508.out) hb); have n1_ := Aside0.mk (blk_below (g := gb504) (o := .cells #[.bool a0_0, .string a0_1, .slice A0_2 l0_2.length c0_2] 25 (0, 0)) (by (with_reducible repeat (first | refine blk_drewN ?_ _ | refine blk_drew ?_ | refine blk_alloc ?_ _)); exact BK504.out) hb); have n2_ := Aside0.mk (below_step bel_ hb); clear HO508; clear BK504; clear HB; have HO508 := n0_; have BK504 := n1_; have HB := n2_; clear n0_ n1_ n2_; (try clear hb); (try clear hb2); (try clear hk); (try clear hi)))
      go_meet
      case rel => exact ⟨_, (true), (by first | rfl | (simp; done) | (simp [*]; done)), H', ⟨by first | omega | exact Nat.le_refl _⟩, ⟨by (with_reducible repeat (first | apply Kd.R_alloc | apply Kd.R_drewN | apply Kd.R_drew)); exact HO508.out⟩, ⟨by (with_reducible repeat (first | refine blk_drewN ?_ _ | refine blk_drew ?_ | refine blk_alloc ?_ _)); exact BK504.out⟩, ⟨bel_⟩⟩
    · replace c11 := Bool.eq_false_iff.mpr c11
      subst c11
      have H1 : ((sequentref01_GreatBinds.f k l1).bind fun t511 => (if t511 = true then (sequentlaw01_TypesVars.j0 k l1 t505 t506 t509 true a0_0 a0_1 l0_2) else (if t509 = 0 then (sequentlaw01_TypesVars.j0 k l1 t505 t506 t509 (!t505) a0_0 a0_1 l0_2) else (sequentlaw01_TypesVars.j0 k l1 t505 t506 t509 true a0_0 a0_1 l0_2)))) = some r := by rw [if_neg (show ¬ (false = true) by decide)] at H; exact H
      clear H
      have H := H1
      clear H1
      replace H := Option.bind_eq_some_iff.mp H
      obtain ⟨t511, A140, H⟩ := H
      replace H : (if t511 = true then (sequentlaw01_TypesVars.j0 k l1 t505 t506 t509 true a0_0 a0_1 l0_2) else (if t509 = 0 then (sequentlaw01_TypesVars.j0 k l1 t505 t506 t509 (!t505) a0_0 a0_1 l0_2) else (sequentlaw01_TypesVars.j0 k l1 t505 t506 t509 true a0_0 a0_1 l0_2))) = some r := H
      have A14 := Aside0.mk A140
      clear A140
      by_cases c15 : t511 = true
      · subst c15
        have H1 : (sequentlaw01_TypesVars.j0 k l1 t505 t506 t509 true a0_0 a0_1 l0_2) = some r := by rw [if_pos rfl] at H; exact H
        clear H
        have H := H1
        clear H1
        have H' := Aside0.mk H
        clear H
        have hcz16_0 : w9.cell? ⟨gb504, 0, none⟩ = some (.bool a0_0) := (blk_cell BK504.out 0).trans rfl
        have hcz16_1 : w9.cell? ⟨gb504, 1, none⟩ = some (.string a0_1) := (blk_cell BK504.out 1).trans rfl
        have hcz16_2 : w9.cell? ⟨gb504, 2, none⟩ = some (.slice A0_2 l0_2.length c0_2) := (blk_cell BK504.out 2).trans rfl
        have hfz16_0 := blk_frozen BK504.out 0
        have hfz16_1 := blk_frozen BK504.out 1
        have hfz16_2 := blk_frozen BK504.out 2
        go_wp2_with (first | ((with_reducible refine gate_callee (f := 14) rfl ?_); refine goesL_ (some 24) rfl rfl Try.func14 (by kernel_rfl) rfl #[.agg #[.bool a0_0, .string a0_1, .slice A0_2 l0_2.length c0_2]] rfl (by (try simp only [List.map_toArray, List.map_cons, List.map_nil]); first | done | rfl | (simp only [List.length_drop, List.length_take]; rfl)) ?_; (with_reducible refine (sequentref01_Great.calls k a0_0 a0_1 _ _ l0_2 false _ ?side1 ?side2 A10.out).mono ?_); (case side1 => repeat (first | exact (Kd.C_below HR0_2.out HB.out) | (with_reducible refine Kd.C_alloc ?_ _) | (with_reducible refine Kd.C_drewN ?_ _) | (with_reducible refine Kd.C_drew ?_))); (case side2 => exact HC0_2.out); rintro e w17 ⟨rfl, hb⟩; refine ⟨_, rfl, ?_⟩; have n0_ := Aside0.mk (Kd.R_below (by (with_reducible repeat (first | apply Kd.R_alloc | apply Kd.R_drewN | apply Kd.R_drew)); exact HO508.out) hb); have n1_ := Aside0.mk (blk_below (g := gb504) (o := .cells #[.bool a0_0, .string a0_1, .slice A0_2 l0_2.length c0_2] 25 (0, 0)) (by (with_reducible repeat (first | refine blk_drewN ?_ _ | refine blk_drew ?_ | refine blk_alloc ?_ _)); exact BK504.out) hb); have n2_ := Aside0.mk (below_step bel_ hb); clear HO508; clear BK504; clear HB; have HO508 := n0_; have BK504 := n1_; have HB := n2_; clear n0_ n1_ n2_; (try clear hb); (try clear hb2); (try clear hk); (try clear hi)) | (go_at_call 13; (with_reducible refine (sequentref01_GreatBinds.calls k _ _ l1 true _ ?side1 ?side2 A14.out).mono ?_); (case side1 => repeat (first | exact (Kd.C_below HR1.out HB.out) | (with_reducible refine Kd.C_alloc ?_ _) | (with_reducible refine Kd.C_drewN ?_ _) | (with_reducible refine Kd.C_drew ?_))); (case side2 => exact HC1.out); rintro e w18 ⟨rfl, hb⟩; have n0_ := Aside0.mk (Kd.R_below (by (with_reducible repeat (first | apply Kd.R_alloc | apply Kd.R_drewN | apply Kd.R_drew)); exact HO508.out) hb); have n1_ := Aside0.mk (blk_below (g := gb504) (o := .cells #[.bool a0_0, .string a0_1, .slice A0_2 l0_2.length c0_2] 25 (0, 0)) (by (with_reducible repeat (first | refine blk_drewN ?_ _ | refine blk_drew ?_ | refine blk_alloc ?_ _)); exact BK504.out) hb); have n2_ := Aside0.mk (below_step bel_ hb); clear HO508; clear BK504; clear HB; have HO508 := n0_; have BK504 := n1_; have HB := n2_; clear n0_ n1_ n2_; (try clear hb); (try clear hb2); (try clear hk); (try clear hi)))
        go_meet
        case rel => exact ⟨_, (true), (by first | rfl | (simp; done) | (simp [*]; done)), H', ⟨by first | omega | exact Nat.le_refl _⟩, ⟨by (with_reducible repeat (first | apply Kd.R_alloc | apply Kd.R_drewN | apply Kd.R_drew)); exact HO508.out⟩, ⟨by (with_reducible repeat (first | refine blk_drewN ?_ _ | refine blk_drew ?_ | refine blk_alloc ?_ _)); exact BK504.out⟩, ⟨bel_⟩⟩
      · replace c15 := Bool.eq_false_iff.mpr c15
        subst c15
        have H1 : (if t509 = 0 then (sequentlaw01_TypesVars.j0 k l1 t505 t506 t509 (!t505) a0_0 a0_1 l0_2) else (sequentlaw01_TypesVars.j0 k l1 t505 t506 t509 true a0_0 a0_1 l0_2)) = some r := by rw [if_neg (show ¬ (false = true) by decide)] at H; exact H
        clear H
        have H := H1
        clear H1
        by_cases c19 : t509 = 0
        · rw [if_pos c19] at H
          have c19b0 : (t509 == 0) = true := beq_iff_eq.mpr c19
          have c19b1 : (t509 != 0) = false := bne_eq_false_iff_eq.mpr c19
          clear c19
          (first | rw [c19b0] | (simp only [i64_w, i32_w]; rw [c19b0]) | skip)
          have H' := Aside0.mk H
          clear H
          have hcz20_0 : w9.cell? ⟨gb504, 0, none⟩ = some (.bool a0_0) := (blk_cell BK504.out 0).trans rfl
          have hcz20_1 : w9.cell? ⟨gb504, 1, none⟩ = some (.string a0_1) := (blk_cell BK504.out 1).trans rfl
          have hcz20_2 : w9.cell? ⟨gb504, 2, none⟩ = some (.slice A0_2 l0_2.length c0_2) := (blk_cell BK504.out 2).trans rfl
          have hfz20_0 := blk_frozen BK504.out 0
          have hfz20_1 := blk_frozen BK504.out 1
          have hfz20_2 := blk_frozen BK504.out 2
          go_wp2_with (first | ((with_reducible refine gate_callee (f := 14) rfl ?_); refine goesL_ (some 24) rfl rfl Try.func14 (by kernel_rfl) rfl #[.agg #[.bool a0_0, .string a0_1, .slice A0_2 l0_2.length c0_2]] rfl (by (try simp only [List.map_toArray, List.map_cons, List.map_nil]); first | done | rfl | (simp only [List.length_drop, List.length_take]; rfl)) ?_; (with_reducible refine (sequentref01_Great.calls k a0_0 a0_1 _ _ l0_2 false _ ?side1 ?side2 A10.out).mono ?_); (case side1 => repeat (first | exact (Kd.C_below HR0_2.out HB.out) | (with_reducible refine Kd.C_alloc ?_ _) | (with_reducible refine Kd.C_drewN ?_ _) | (with_reducible refine Kd.C_drew ?_))); (case side2 => exact HC0_2.out); rintro e w21 ⟨rfl, hb⟩; refine ⟨_, rfl, ?_⟩; have n0_ := Aside0.mk (Kd.R_below (by (with_reducible repeat (first | apply Kd.R_alloc | apply Kd.R_drewN | apply Kd.R_drew)); exact HO508.out) hb); have n1_ := Aside0.mk (blk_below (g := gb504) (o := .cells #[.bool a0_0, .string a0_1, .slice A0_2 l0_2.length c0_2] 25 (0, 0)) (by (with_reducible repeat (first | refine blk_drewN ?_ _ | refine blk_drew ?_ | refine blk_alloc ?_ _)); exact BK504.out) hb); have n2_ := Aside0.mk (below_step bel_ hb); clear HO508; clear BK504; clear HB; have HO508 := n0_; have BK504 := n1_; have HB := n2_; clear n0_ n1_ n2_; (try clear hb); (try clear hb2); (try clear hk); (try clear hi)) | (go_at_call 13; (with_reducible refine (sequentref01_GreatBinds.calls k _ _ l1 false _ ?side1 ?side2 A14.out).mono ?_); (case side1 => repeat (first | exact (Kd.C_below HR1.out HB.out) | (with_reducible refine Kd.C_alloc ?_ _) | (with_reducible refine Kd.C_drewN ?_ _) | (with_reducible refine Kd.C_drew ?_))); (case side2 => exact HC1.out); rintro e w22 ⟨rfl, hb⟩; have n0_ := Aside0.mk (Kd.R_below (by (with_reducible repeat (first | apply Kd.R_alloc | apply Kd.R_drewN | apply Kd.R_drew)); exact HO508.out) hb); have n1_ := Aside0.mk (blk_below (g := gb504) (o := .cells #[.bool a0_0, .string a0_1, .slice A0_2 l0_2.length c0_2] 25 (0, 0)) (by (with_reducible repeat (first | refine blk_drewN ?_ _ | refine blk_drew ?_ | refine blk_alloc ?_ _)); exact BK504.out) hb); have n2_ := Aside0.mk (below_step bel_ hb); clear HO508; clear BK504; clear HB; have HO508 := n0_; have BK504 := n1_; have HB := n2_; clear n0_ n1_ n2_; (try clear hb); (try clear hb2); (try clear hk); (try clear hi)))
          go_meet
          case rel => exact ⟨_, (!t505), (by first | rfl | (simp; done) | (simp [*]; done)), H', ⟨by first | omega | exact Nat.le_refl _⟩, ⟨by (with_reducible repeat (first | apply Kd.R_alloc | apply Kd.R_drewN | apply Kd.R_drew)); exact HO508.out⟩, ⟨by (with_reducible repeat (first | refine blk_drewN ?_ _ | refine blk_drew ?_ | refine blk_alloc ?_ _)); exact BK504.out⟩, ⟨bel_⟩⟩
        · rw [if_neg c19] at H
          have c19b0 : (t509 == 0) = false := beq_eq_false_iff_ne.mpr c19
          have c19b1 : (t509 != 0) = true := bne_iff_ne.mpr c19
          (first | rw [c19b0] | (simp only [i64_w, i32_w]; rw [c19b0]) | skip)
          have H' := Aside0.mk H
          clear H
          have hcz23_0 : w9.cell? ⟨gb504, 0, none⟩ = some (.bool a0_0) := (blk_cell BK504.out 0).trans rfl
          have hcz23_1 : w9.cell? ⟨gb504, 1, none⟩ = some (.string a0_1) := (blk_cell BK504.out 1).trans rfl
          have hcz23_2 : w9.cell? ⟨gb504, 2, none⟩ = some (.slice A0_2 l0_2.length c0_2) := (blk_cell BK504.out 2).trans rfl
          have hfz23_0 := blk_frozen BK504.out 0
          have hfz23_1 := blk_frozen BK504.out 1
          have hfz23_2 := blk_frozen BK504.out 2
          go_wp2_with (first | ((with_reducible refine gate_callee (f := 14) rfl ?_); refine goesL_ (some 24) rfl rfl Try.func14 (by kernel_rfl) rfl #[.agg #[.bool a0_0, .string a0_1, .slice A0_2 l0_2.length c0_2]] rfl (by (try simp only [List.map_toArray, List.map_cons, List.map_nil]); first | done | rfl | (simp only [List.length_drop, List.length_take]; rfl)) ?_; (with_reducible refine (sequentref01_Great.calls k a0_0 a0_1 _ _ l0_2 false _ ?side1 ?side2 A10.out).mono ?_); (case side1 => repeat (first | exact (Kd.C_below HR0_2.out HB.out) | (with_reducible refine Kd.C_alloc ?_ _) | (with_reducible refine Kd.C_drewN ?_ _) | (with_reducible refine Kd.C_drew ?_))); (case side2 => exact HC0_2.out); rintro e w24 ⟨rfl, hb⟩; refine ⟨_, rfl, ?_⟩; have n0_ := Aside0.mk (Kd.R_below (by (with_reducible repeat (first | apply Kd.R_alloc | apply Kd.R_drewN | apply Kd.R_drew)); exact HO508.out) hb); have n1_ := Aside0.mk (blk_below (g := gb504) (o := .cells #[.bool a0_0, .string a0_1, .slice A0_2 l0_2.length c0_2] 25 (0, 0)) (by (with_reducible repeat (first | refine blk_drewN ?_ _ | refine blk_drew ?_ | refine blk_alloc ?_ _)); exact BK504.out) hb); have n2_ := Aside0.mk (below_step bel_ hb); clear HO508; clear BK504; clear HB; have HO508 := n0_; have BK504 := n1_; have HB := n2_; clear n0_ n1_ n2_; (try clear hb); (try clear hb2); (try clear hk); (try clear hi)) | (go_at_call 13; (with_reducible refine (sequentref01_GreatBinds.calls k _ _ l1 false _ ?side1 ?side2 A14.out).mono ?_); (case side1 => repeat (first | exact (Kd.C_below HR1.out HB.out) | (with_reducible refine Kd.C_alloc ?_ _) | (with_reducible refine Kd.C_drewN ?_ _) | (with_reducible refine Kd.C_drew ?_))); (case side2 => exact HC1.out); rintro e w25 ⟨rfl, hb⟩; have n0_ := Aside0.mk (Kd.R_below (by (with_reducible repeat (first | apply Kd.R_alloc | apply Kd.R_drewN | apply Kd.R_drew)); exact HO508.out) hb); have n1_ := Aside0.mk (blk_below (g := gb504) (o := .cells #[.bool a0_0, .string a0_1, .slice A0_2 l0_2.length c0_2] 25 (0, 0)) (by (with_reducible repeat (first | refine blk_drewN ?_ _ | refine blk_drew ?_ | refine blk_alloc ?_ _)); exact BK504.out) hb); have n2_ := Aside0.mk (below_step bel_ hb); clear HO508; clear BK504; clear HB; have HO508 := n0_; have BK504 := n1_; have HB := n2_; clear n0_ n1_ n2_; (try clear hb); (try clear hb2); (try clear hk); (try clear hi)))
          go_meet
          case rel => exact ⟨_, (true), (by first | rfl | (simp; done) | (simp [*]; done)), H', ⟨by first | omega | exact Nat.le_refl _⟩, ⟨by (with_reducible repeat (first | apply Kd.R_alloc | apply Kd.R_drewN | apply Kd.R_drew)); exact HO508.out⟩, ⟨by (with_reducible repeat (first | refine blk_drewN ?_ _ | refine blk_drew ?_ | refine blk_alloc ?_ _)); exact BK504.out⟩, ⟨bel_⟩⟩
  case rest =>
    clear HC5
    try clear c1
    try clear c2
    try clear p2
    try clear c4
    try clear c8
    try clear c11
    try clear c14
    try clear c15
    try clear c19
    try clear c19b0
    try clear c19b1
    try clear c23
    try clear hcz12_0
    try clear hcz12_1
    try clear hcz12_2
    try clear hcz16_0
    try clear hcz16_1
    try clear hcz16_2
    try clear hcz20_0
    try clear hcz20_1
    try clear hcz20_2
    try clear hcz23_0
    try clear hcz23_1
    try clear hcz23_2
    try clear hcz8_0
    try clear hcz8_1
    try clear hcz8_2
    try clear hfz12_0
    try clear hfz12_1
    try clear hfz12_2
    try clear hfz16_0
    try clear hfz16_1
    try clear hfz16_2
    try clear hfz20_0
    try clear hfz20_1
    try clear hfz20_2
    try clear hfz23_0
    try clear hfz23_1
    try clear hfz23_2
    try clear hfz8_0
    try clear hfz8_1
    try clear hfz8_2
    obtain ⟨kq, x36_4, rfl, HA, HJ4, HO_6, BK504, HB⟩ := hcut
    cases kq with
    | zero => exact absurd HA.out (by simp [sequentlaw01_TypesVars.j0])
    | succ kj4 =>
      have H := HA.out
      clear HA
      simp only [sequentlaw01_TypesVars.j0] at H
      by_cases c26 : x36_4 = true
      · subst c26
        have H1 : (if t505 = true then (if t509 = 0 then (some true) else (some ((t506.length : Int) == 0))) else (some false)) = some r := by rw [if_pos rfl] at H; exact H
        clear H
        have H := H1
        clear H1
        by_cases c27 : t505 = true
        · subst c27
          have H1 : (if t509 = 0 then (some true) else (some ((t506.length : Int) == 0))) = some r := by rw [if_pos rfl] at H; exact H
          clear H
          have H := H1
          clear H1
          by_cases c28 : t509 = 0
          · rw [if_pos c28] at H
            have c28b0 : (t509 == 0) = true := beq_iff_eq.mpr c28
            have c28b1 : (t509 != 0) = false := bne_eq_false_iff_eq.mpr c28
            clear c28
            obtain rfl := Option.some.inj H
            go_wp2
            go_ret
            exact ⟨by first | rfl | (simp [errW_none, errW_some] <;> rfl) | (simp [*, errW_none, errW_some] <;> rfl), bel_⟩
          · rw [if_neg c28] at H
            have c28b0 : (t509 == 0) = false := beq_eq_false_iff_ne.mpr c28
            have c28b1 : (t509 != 0) = true := bne_iff_ne.mpr c28
            obtain rfl := Option.some.inj H
            obtain ⟨Ao29, co29, eo29⟩ := Kd.R_slice HO_6.out
            subst eo29
            go_wp2
            go_ret
            exact ⟨by first | rfl | (simp [errW_none, errW_some] <;> rfl) | (simp [*, errW_none, errW_some] <;> rfl), bel_⟩
        · replace c27 := Bool.eq_false_iff.mpr c27
          subst c27
          have H1 : (some false) = some r := by rw [if_neg (show ¬ (false = true) by decide)] at H; exact H
          clear H
          have H := H1
          clear H1
          obtain rfl := Option.some.inj H
          go_wp2
          go_ret
          exact ⟨by first | rfl | (simp [errW_none, errW_some] <;> rfl) | (simp [*, errW_none, errW_some] <;> rfl), bel_⟩
      · replace c26 := Bool.eq_false_iff.mpr c26
        subst c26
        have H1 : (sequentlaw01_TypesVars.l0 kj4 l1 t505 t506 ([] : List (S59)) 0 a0_0 a0_1 l0_2) = some r := by rw [if_neg (show ¬ (false = true) by decide)] at H; exact H
        clear H
        have H := H1
        clear H1
        have H' := Aside0.mk H
        clear H
        go_wp2
        go_loopg [8, 9] kj4 (fun kq v8 v9 w' => ∃ (x8_2 : List (S59)) (x9_2 : Int), v9 = .int .i64 x9_2 ∧ Aside0 (sequentlaw01_TypesVars.l0 kq l1 t505 t506 x8_2 x9_2 a0_0 a0_1 l0_2 = some r) ∧ Aside0 (kq ≤ kj4) ∧ Aside0 (Kd.R Kd.string 9 w' w.heap.size (fun _ => True) v507 t506) ∧ Aside0 (Kd.R k59 59 w' w.heap.size (fun k_ => k_ ≠ gb504) v8 x8_2) ∧ Aside0 (w'.heap[gb504]? = some (.cells #[.bool a0_0, .string a0_1, (.slice A0_2 l0_2.length c0_2)] 25 (0, 0))) ∧ Aside0 (Below w.heap.size w w'))
        case atStart => exact ⟨(([] : List (S59))), (0), (by first | rfl | (simp; done) | (simp [*]; done)), H', ⟨Nat.le_refl _⟩, ⟨by (with_reducible repeat (first | apply Kd.R_alloc | apply Kd.R_drewN | apply Kd.R_drew)); exact HO_6.out⟩, ⟨by first | exact Kd.R_nil _ _ _ _ _ | exact Kd.N_nil _ _ _ _ _ | exact Kd.V_nil _ _ _ _ _ | exact Kd.Q_nil _ _ _ _ _ | exact Kd.S_nil _ _ _ _ _⟩, ⟨by (with_reducible repeat (first | refine blk_drewN ?_ _ | refine blk_drew ?_ | refine blk_alloc ?_ _)); exact BK504.out⟩, ⟨bel_⟩⟩
        case round =>
          clear H'
          try clear c1
          try clear c2
          try clear p2
          try clear c4
          try clear c8
          try clear c11
          try clear c14
          try clear c15
          try clear c19
          try clear c19b0
          try clear c19b1
          try clear c23
          try clear c26
          try clear c27
          try clear c28
          try clear c28b0
          try clear c28b1
          try clear hcz12_0
          try clear hcz12_1
          try clear hcz12_2
          try clear hcz16_0
          try clear hcz16_1
          try clear hcz16_2
          try clear hcz20_0
          try clear hcz20_1
          try clear hcz20_2
          try clear hcz23_0
          try clear hcz23_1
          try clear hcz23_2
          try clear hcz8_0
          try clear hcz8_1
          try clear hcz8_2
          try clear hfz12_0
          try clear hfz12_1
          try clear hfz12_2
          try clear hfz16_0
          try clear hfz16_1
          try clear hfz16_2
          try clear hfz20_0
          try clear hfz20_1
          try clear hfz20_2
          try clear hfz23_0
          try clear hfz23_1
          try clear hfz23_2
          try clear hfz8_0
          try clear hfz8_1
          try clear hfz8_2
          try clear p2
          obtain ⟨x8_2, x9_2, rfl, HA, HK2, HO_6, HO_8, BK504, HB⟩ := hrel
          cases gk with
          | zero => exact absurd HA.out (by simp [sequentlaw01_TypesVars.l0])
          | succ k2 =>
            have H := HA.out
            clear HA
            simp only [sequentlaw01_TypesVars.l0] at H
            by_cases c30 : x9_2 < (t506.length : Int)
            · rw [if_pos c30] at H
              have c30b0 : decide (x9_2 < (t506.length : Int)) = true := decide_eq_true c30
              clear c30
              by_cases c31 : 0 ≤ x9_2
              · rw [if_pos c31] at H
                have c31b0 := eq_true c31
                have c31b1 : decide (0 ≤ x9_2) = true := decide_eq_true c31
                clear c31
                by_cases c32 : x9_2 ≤ (t506.length : Int)
                · rw [if_pos c32] at H
                  have c32b0 := eq_true c32
                  have c32b1 : decide (x9_2 ≤ (t506.length : Int)) = true := decide_eq_true c32
                  clear c32
                  obtain ⟨y512, hy512⟩ : ∃ y_ : List ByteArray, y_ = (t506.take (x9_2 : Int).toNat) := ⟨_, rfl⟩
                  replace H : ((sequentref01_In.f k2 y512 (rdOf ByteArray.empty t506 x9_2)).bind fun t517 => (if t517 = true then (some false) else ((types_Bool.f).bind fun bt519 => (if x8_2.length < 2199023255552 then (sequentlaw01_TypesVars.l0 k2 l1 t505 t506 (x8_2 ++ [(⟨rdOf ByteArray.empty t506 x9_2, (⟨bt519.1, bt519.2.1, bt519.2.2⟩ : S25)⟩ : S59)]) (wrap64 (x9_2 + 1)) a0_0 a0_1 l0_2) else (none))))) = some r := by first | (rw [hy512]; with_reducible exact H) | (have H2_ := (Option.bind_some _ _).symm.trans H; rw [hy512]; with_reducible exact H2_) | (have H2_ := (Option.bind_some _ _).symm.trans H; with_reducible exact H2_) | with_reducible exact H | (rw [hy512]; exact H) | exact H
                  have Ny512 := Aside0.mk hy512
                  clear hy512
                  replace H := Option.bind_eq_some_iff.mp H
                  obtain ⟨t517, A330, H⟩ := H
                  replace H : (if t517 = true then (some false) else ((types_Bool.f).bind fun bt519 => (if x8_2.length < 2199023255552 then (sequentlaw01_TypesVars.l0 k2 l1 t505 t506 (x8_2 ++ [(⟨rdOf ByteArray.empty t506 x9_2, (⟨bt519.1, bt519.2.1, bt519.2.2⟩ : S25)⟩ : S59)]) (wrap64 (x9_2 + 1)) a0_0 a0_1 l0_2) else (none)))) = some r := H
                  have A33 := Aside0.mk A330
                  clear A330
                  by_cases c34 : t517 = true
                  · subst c34
                    have H1 : (some false) = some r := by rw [if_pos rfl] at H; exact H
                    clear H
                    have H := H1
                    clear H1
                    obtain rfl := Option.some.inj H
                    obtain ⟨Ao35, co35, eo35⟩ := Kd.R_slice HO_6.out
                    subst eo35
                    try go_wp2
                    have n0_ := Aside0.mk (Kd.R_drew HO_6.out)
                    have n1_ := Aside0.mk (Kd.R_drew HO_8.out)
                    have n2_ := Aside0.mk (blk_drew BK504.out)
                    have n3_ := Aside0.mk (below_drew1 HB.out)
                    clear HO_6
                    clear HO_8
                    clear BK504
                    clear HB
                    have HO_6 := n0_
                    have HO_8 := n1_
                    have BK504 := n2_
                    have HB := n3_
                    clear n0_ n1_ n2_ n3_
                    have q37 : (x9_2 : Int) ≤ ((t506.length : Int) : Int) := of_decide_eq_true (by first | (with_reducible assumption) | assumption)
                    obtain ⟨i037, hi037, _, hsz37, _⟩ := info_parts info9
                    have hroom37 : t506.length ≤ co35 := (Kd.R_reads' HO_6.out).2.1
                    have hC37 : Kd.C Kd.string _ Ao35 t506.length t506 := (Kd.R_reads' HO_6.out).2.2
                    have hcut37 := cut_to (P := Try.prog) 43 9 .i64 Try.underlying43 hi037 Ao35 t506.length co35 x9_2 (of_decide_eq_true (by first | (with_reducible assumption) | assumption)) q37 hroom37
                    have hr37 := Kd.C_take (m := (x9_2 : Int).toNat) hC37 (by omega)
                    have hy37 : y512.length = (x9_2 : Int).toNat := (by rw [Ny512.out, List.length_take]; omega)
                    rw [← Ny512.out] at hr37
                    rw [← hy37] at hcut37
                    have HR515 := Aside0.mk hr37
                    have HC515 := Aside0.mk (show y512.length ≤ co35 from by omega)
                    clear hr37 hC37 hroom37 hi037 hsz37
                    have KY37 := Aside0.mk hy37
                    clear hy37
                    have KL37 := Aside0.mk (show (x9_2 : Int).toNat ≤ t506.length from by omega)
                    replace q37 := eq_true q37
                    have p516 : 0 ≤ (x9_2 : Int) := of_decide_eq_true (by first | (with_reducible assumption) | assumption)
                    have q516 : x9_2 < (t506.length : Int) := of_decide_eq_true (by first | (with_reducible assumption) | assumption)
                    obtain ⟨ad516, e516, hx516_0⟩ := Kd.at_string (Kd.R_reads' HO_6.out).2.2 x9_2 p516 q516
                    cases e516
                    replace p516 := eq_true p516
                    replace q516 := eq_true q516
                    refine start_ (n := 8) (S := fun w' => w'.cell? (ad516.add (x9_2).toNat) = some (.string (rdOf ByteArray.empty t506 x9_2))) (ds := []) #[false, false, false, false, false, false, false, false] (by kernel_rfl) rfl rfl (hx516_0) (fun hHeld => ?_); refine with_tabW sequentlaw01_TypesVars.tab9 sequentlaw01_TypesVars.bits9 (fun HT_ HW_ => ?_)
                    generalize wr.drew = w36 at HO_6 HO_8 BK504 HB HR515 hx516_0 hHeld ⊢
                    refine pure_ (i := 0) (N := some 53) (v := ?_) (a' := ?_) #[true, false, false, false, false, false, false, false] rfl rfl (any_of HT_.out (by kernel_rfl)) (fun _ _ _ h => h) (Or.inl ⟨by rfl, ?_⟩) ?_ ?_
                    rotate_left
                    · intro w'
                      go_simp
                      with_reducible rfl
                    rotate_left
                    · simp only [Act.put, List.setIfInBounds_toArray, List.set_cons_zero, List.set_cons_succ, i64_w, i32_w]
                      rfl
                    refine pure_ (i := 1) (N := some 54) (v := ?_) (a' := ?_) #[true, true, false, false, false, false, false, false] rfl rfl (any_of HT_.out (by kernel_rfl)) (fun _ _ _ h => h) (Or.inl ⟨by rfl, ?_⟩) ?_ ?_
                    rotate_left
                    · intro w'
                      go_simp
                      with_reducible rfl
                    rotate_left
                    · simp only [Act.put, List.setIfInBounds_toArray, List.set_cons_zero, List.set_cons_succ, i64_w, i32_w]
                      rfl
                    refine pure_ (i := 2) (N := some 55) (v := ?_) (a' := ?_) #[true, true, true, false, false, false, false, false] rfl rfl (any_of HT_.out (by kernel_rfl)) (fun _ _ _ h => h) (Or.inl ⟨by rfl, ?_⟩) ?_ ?_
                    rotate_left
                    · intro w'
                      go_simp
                      with_reducible rfl
                    rotate_left
                    · simp only [Act.put, List.setIfInBounds_toArray, List.set_cons_zero, List.set_cons_succ, i64_w, i32_w]
                      rfl
                    refine pure_ (i := 3) (N := some 56) (v := ?_) (a' := ?_) #[true, true, true, true, false, false, false, false] rfl rfl (any_of HT_.out (by kernel_rfl)) (fun _ _ _ h => h) (Or.inl ⟨by rfl, ?_⟩) ?_ ?_
                    rotate_left
                    · intro w'
                      go_simp
                      with_reducible rfl
                    rotate_left
                    · simp only [Act.put, List.setIfInBounds_toArray, List.set_cons_zero, List.set_cons_succ, i64_w, i32_w]
                      rfl
                    refine pure_ (i := 4) (N := some 57) (v := ?_) (a' := ?_) #[true, true, true, true, true, false, false, false] rfl rfl (any_of HT_.out (by kernel_rfl)) (fun _ _ _ h => h) (Or.inl ⟨by rfl, ?_⟩) ?_ ?_
                    rotate_left
                    · intro w'
                      go_simp
                      with_reducible rfl
                    rotate_left
                    · simp only [Act.put, List.setIfInBounds_toArray, List.set_cons_zero, List.set_cons_succ, i64_w, i32_w]
                      rfl
                    refine pure_ (i := 5) (N := some 58) (v := ?_) (a' := ?_) #[true, true, true, true, true, true, false, false] rfl rfl (any_of HT_.out (by kernel_rfl)) (fun _ _ _ h => h) (Or.inl ⟨by rfl, ?_⟩) ?_ ?_
                    rotate_left
                    · intro w'
                      go_simp
                      with_reducible rfl
                    rotate_left
                    · simp only [Act.put, List.setIfInBounds_toArray, List.set_cons_zero, List.set_cons_succ, i64_w, i32_w]
                      rfl
                    refine take_ (i := 6) (N := some 59) (v := ?_) (a' := ?_) #[true, true, true, true, true, true, true, false] rfl rfl (take_ofW HT_.out HW_.out (by kernel_rfl)) (fun _ _ _ h => h) (Or.inl ⟨by rfl, ?_⟩) hHeld ?_ ?_
                    rotate_left
                    · intro w' s0
                      go_simp
                      with_reducible rfl
                    rotate_left
                    · simp only [Act.put, List.setIfInBounds_toArray, List.set_cons_zero, List.set_cons_succ, i64_w, i32_w]
                      rfl
                    refine one_ (i := 7) (N := some 60) #[true, true, true, true, true, true, true, true] rfl rfl (one_of HT_.out (by kernel_rfl)) (by decide) (fun K hK => ?_)
                    refine goes_ Try.func41 (by kernel_rfl) rfl #[.slice (some ad516) y512.length co35, .string (rdOf ByteArray.empty t506 x9_2)] (by rfl) rfl rfl (by (try simp only [List.map_toArray, List.map_cons, List.map_nil]); first | done | rfl | (simp only [List.length_drop, List.length_take]; rfl)) ?_
                    with_reducible refine (sequentref01_In.calls k2 _ _ y512 (rdOf ByteArray.empty t506 x9_2) true _ ?side1 ?side2 A33.out).mono ?_
                    (case side1 => repeat (first | exact (by repeat (first | (with_reducible exact HR515.out) | (with_reducible refine Kd.C_alloc ?_ _) | (with_reducible refine Kd.C_drewN ?_ _) | (with_reducible refine Kd.C_drew ?_) | exact HR515.out)) | (with_reducible refine Kd.C_alloc ?_ _) | (with_reducible refine Kd.C_drewN ?_ _) | (with_reducible refine Kd.C_drew ?_)))
                    (case side2 => exact HC515.out)
                    rintro e w' ⟨rfl, ⟨nd, rfl⟩⟩
                    refine ⟨_, rfl, ?_⟩
                    refine hK.out _ _ (hHeld) (fun hHeld => ?_)
                    clear hK K
                    refine norm_ (a' := ?_) ?_ ?_
                    rotate_left
                    · show Act.put _ (some 60) _ = _
                      simp only [Act.put, List.setIfInBounds_toArray, List.set_cons_zero, List.set_cons_succ, i64_w, i32_w]
                      rfl
                    refine done_ (done_of HT_.out (by kernel_rfl)) ?_
                    try go_wp2
                    go_ret
                    exact ⟨by first | rfl | (simp [errW_none, errW_some] <;> rfl) | (simp [*, errW_none, errW_some] <;> rfl), bel_⟩
                  · replace c34 := Bool.eq_false_iff.mpr c34
                    subst c34
                    have H1 : ((types_Bool.f).bind fun bt519 => (if x8_2.length < 2199023255552 then (sequentlaw01_TypesVars.l0 k2 l1 t505 t506 (x8_2 ++ [(⟨rdOf ByteArray.empty t506 x9_2, (⟨bt519.1, bt519.2.1, bt519.2.2⟩ : S25)⟩ : S59)]) (wrap64 (x9_2 + 1)) a0_0 a0_1 l0_2) else (none))) = some r := by rw [if_neg (show ¬ (false = true) by decide)] at H; exact H
                    clear H
                    have H := H1
                    clear H1
                    replace H := Option.bind_eq_some_iff.mp H
                    obtain ⟨⟨t519, t520, t521⟩, A380, H⟩ := H
                    replace H : (if x8_2.length < 2199023255552 then (sequentlaw01_TypesVars.l0 k2 l1 t505 t506 (x8_2 ++ [(⟨rdOf ByteArray.empty t506 x9_2, (⟨t519, t520, t521⟩ : S25)⟩ : S59)]) (wrap64 (x9_2 + 1)) a0_0 a0_1 l0_2) else (none)) = some r := H
                    have A38 := Aside0.mk A380
                    clear A380
                    by_cases c39 : x8_2.length < 2199023255552
                    · rw [if_pos c39] at H
                      have LMc39 := Aside0.mk c39
                      clear c39
                      obtain ⟨y524, hy524⟩ : ∃ y_ : List (S59), y_ = (x8_2 ++ [(⟨rdOf ByteArray.empty t506 x9_2, (⟨t519, t520, t521⟩ : S25)⟩ : S59)]) := ⟨_, rfl⟩
                      replace H : (sequentlaw01_TypesVars.l0 k2 l1 t505 t506 y524 (wrap64 (x9_2 + 1)) a0_0 a0_1 l0_2) = some r := by first | (rw [hy524]; with_reducible exact H) | (have H2_ := (Option.bind_some _ _).symm.trans H; rw [hy524]; with_reducible exact H2_) | (have H2_ := (Option.bind_some _ _).symm.trans H; with_reducible exact H2_) | with_reducible exact H | (rw [hy524]; exact H) | exact H
                      have Ny524 := Aside0.mk hy524
                      clear hy524
                      have H' := Aside0.mk H
                      clear H
                      obtain ⟨Ao40, co40, eo40⟩ := Kd.R_slice HO_6.out
                      subst eo40
                      try go_wp2
                      have n0_ := Aside0.mk (Kd.R_drew HO_6.out)
                      have n1_ := Aside0.mk (Kd.R_drew HO_8.out)
                      have n2_ := Aside0.mk (blk_drew BK504.out)
                      have n3_ := Aside0.mk (below_drew1 HB.out)
                      clear HO_6
                      clear HO_8
                      clear BK504
                      clear HB
                      have HO_6 := n0_
                      have HO_8 := n1_
                      have BK504 := n2_
                      have HB := n3_
                      clear n0_ n1_ n2_ n3_
                      have q42 : (x9_2 : Int) ≤ ((t506.length : Int) : Int) := of_decide_eq_true (by first | (with_reducible assumption) | assumption)
                      obtain ⟨i042, hi042, _, hsz42, _⟩ := info_parts info9
                      have hroom42 : t506.length ≤ co40 := (Kd.R_reads' HO_6.out).2.1
                      have hC42 : Kd.C Kd.string _ Ao40 t506.length t506 := (Kd.R_reads' HO_6.out).2.2
                      have hcut42 := cut_to (P := Try.prog) 43 9 .i64 Try.underlying43 hi042 Ao40 t506.length co40 x9_2 (of_decide_eq_true (by first | (with_reducible assumption) | assumption)) q42 hroom42
                      have hr42 := Kd.C_take (m := (x9_2 : Int).toNat) hC42 (by omega)
                      have hy42 : y512.length = (x9_2 : Int).toNat := (by rw [Ny512.out, List.length_take]; omega)
                      rw [← Ny512.out] at hr42
                      rw [← hy42] at hcut42
                      have HR515 := Aside0.mk hr42
                      have HC515 := Aside0.mk (show y512.length ≤ co40 from by omega)
                      clear hr42 hC42 hroom42 hi042 hsz42
                      have KY42 := Aside0.mk hy42
                      clear hy42
                      have KL42 := Aside0.mk (show (x9_2 : Int).toNat ≤ t506.length from by omega)
                      replace q42 := eq_true q42
                      have p516 : 0 ≤ (x9_2 : Int) := of_decide_eq_true (by first | (with_reducible assumption) | assumption)
                      have q516 : x9_2 < (t506.length : Int) := of_decide_eq_true (by first | (with_reducible assumption) | assumption)
                      obtain ⟨ad516, e516, hx516_0⟩ := Kd.at_string (Kd.R_reads' HO_6.out).2.2 x9_2 p516 q516
                      cases e516
                      replace p516 := eq_true p516
                      replace q516 := eq_true q516
                      refine start_ (n := 8) (S := fun w' => w'.cell? (ad516.add (x9_2).toNat) = some (.string (rdOf ByteArray.empty t506 x9_2))) (ds := []) #[false, false, false, false, false, false, false, false] (by kernel_rfl) rfl rfl (hx516_0) (fun hHeld => ?_); refine with_tabW sequentlaw01_TypesVars.tab9 sequentlaw01_TypesVars.bits9 (fun HT_ HW_ => ?_)
                      generalize wr.drew = w41 at HO_6 HO_8 BK504 HB HR515 hx516_0 hHeld ⊢
                      refine pure_ (i := 0) (N := some 53) (v := ?_) (a' := ?_) #[true, false, false, false, false, false, false, false] rfl rfl (any_of HT_.out (by kernel_rfl)) (fun _ _ _ h => h) (Or.inl ⟨by rfl, ?_⟩) ?_ ?_
                      rotate_left
                      · intro w'
                        go_simp
                        with_reducible rfl
                      rotate_left
                      · simp only [Act.put, List.setIfInBounds_toArray, List.set_cons_zero, List.set_cons_succ, i64_w, i32_w]
                        rfl
                      refine pure_ (i := 1) (N := some 54) (v := ?_) (a' := ?_) #[true, true, false, false, false, false, false, false] rfl rfl (any_of HT_.out (by kernel_rfl)) (fun _ _ _ h => h) (Or.inl ⟨by rfl, ?_⟩) ?_ ?_
                      rotate_left
                      · intro w'
                        go_simp
                        with_reducible rfl
                      rotate_left
                      · simp only [Act.put, List.setIfInBounds_toArray, List.set_cons_zero, List.set_cons_succ, i64_w, i32_w]
                        rfl
                      refine pure_ (i := 2) (N := some 55) (v := ?_) (a' := ?_) #[true, true, true, false, false, false, false, false] rfl rfl (any_of HT_.out (by kernel_rfl)) (fun _ _ _ h => h) (Or.inl ⟨by rfl, ?_⟩) ?_ ?_
                      rotate_left
                      · intro w'
                        go_simp
                        with_reducible rfl
                      rotate_left
                      · simp only [Act.put, List.setIfInBounds_toArray, List.set_cons_zero, List.set_cons_succ, i64_w, i32_w]
                        rfl
                      refine pure_ (i := 3) (N := some 56) (v := ?_) (a' := ?_) #[true, true, true, true, false, false, false, false] rfl rfl (any_of HT_.out (by kernel_rfl)) (fun _ _ _ h => h) (Or.inl ⟨by rfl, ?_⟩) ?_ ?_
                      rotate_left
                      · intro w'
                        go_simp
                        with_reducible rfl
                      rotate_left
                      · simp only [Act.put, List.setIfInBounds_toArray, List.set_cons_zero, List.set_cons_succ, i64_w, i32_w]
                        rfl
                      refine pure_ (i := 4) (N := some 57) (v := ?_) (a' := ?_) #[true, true, true, true, true, false, false, false] rfl rfl (any_of HT_.out (by kernel_rfl)) (fun _ _ _ h => h) (Or.inl ⟨by rfl, ?_⟩) ?_ ?_
                      rotate_left
                      · intro w'
                        go_simp
                        with_reducible rfl
                      rotate_left
                      · simp only [Act.put, List.setIfInBounds_toArray, List.set_cons_zero, List.set_cons_succ, i64_w, i32_w]
                        rfl
                      refine pure_ (i := 5) (N := some 58) (v := ?_) (a' := ?_) #[true, true, true, true, true, true, false, false] rfl rfl (any_of HT_.out (by kernel_rfl)) (fun _ _ _ h => h) (Or.inl ⟨by rfl, ?_⟩) ?_ ?_
                      rotate_left
                      · intro w'
                        go_simp
                        with_reducible rfl
                      rotate_left
                      · simp only [Act.put, List.setIfInBounds_toArray, List.set_cons_zero, List.set_cons_succ, i64_w, i32_w]
                        rfl
                      refine take_ (i := 6) (N := some 59) (v := ?_) (a' := ?_) #[true, true, true, true, true, true, true, false] rfl rfl (take_ofW HT_.out HW_.out (by kernel_rfl)) (fun _ _ _ h => h) (Or.inl ⟨by rfl, ?_⟩) hHeld ?_ ?_
                      rotate_left
                      · intro w' s0
                        go_simp
                        with_reducible rfl
                      rotate_left
                      · simp only [Act.put, List.setIfInBounds_toArray, List.set_cons_zero, List.set_cons_succ, i64_w, i32_w]
                        rfl
                      refine one_ (i := 7) (N := some 60) #[true, true, true, true, true, true, true, true] rfl rfl (one_of HT_.out (by kernel_rfl)) (by decide) (fun K hK => ?_)
                      refine goes_ Try.func41 (by kernel_rfl) rfl #[.slice (some ad516) y512.length co40, .string (rdOf ByteArray.empty t506 x9_2)] (by rfl) rfl rfl (by (try simp only [List.map_toArray, List.map_cons, List.map_nil]); first | done | rfl | (simp only [List.length_drop, List.length_take]; rfl)) ?_
                      with_reducible refine (sequentref01_In.calls k2 _ _ y512 (rdOf ByteArray.empty t506 x9_2) false _ ?side1 ?side2 A33.out).mono ?_
                      (case side1 => repeat (first | exact (by repeat (first | (with_reducible exact HR515.out) | (with_reducible refine Kd.C_alloc ?_ _) | (with_reducible refine Kd.C_drewN ?_ _) | (with_reducible refine Kd.C_drew ?_) | exact HR515.out)) | (with_reducible refine Kd.C_alloc ?_ _) | (with_reducible refine Kd.C_drewN ?_ _) | (with_reducible refine Kd.C_drew ?_)))
                      (case side2 => exact HC515.out)
                      rintro e w' ⟨rfl, ⟨nd, rfl⟩⟩
                      refine ⟨_, rfl, ?_⟩
                      refine hK.out _ _ (hHeld) (fun hHeld => ?_)
                      clear hK K
                      refine norm_ (a' := ?_) ?_ ?_
                      rotate_left
                      · show Act.put _ (some 60) _ = _
                        simp only [Act.put, List.setIfInBounds_toArray, List.set_cons_zero, List.set_cons_succ, i64_w, i32_w]
                        rfl
                      refine done_ (done_of HT_.out (by kernel_rfl)) ?_
                      try go_wp2
                      (try (rw [drewN_self w41]; generalize hq_ : World.drewN w41 _ = w41; have n0_ : Aside0 (Kd.R Kd.string 9 w41 w.heap.size (fun _ => True) (.slice (some ad516) t506.length co40) t506) := ⟨by rw [← hq_]; exact (by (with_reducible repeat (first | apply Kd.R_alloc | apply Kd.R_drewN | apply Kd.R_drew)); exact HO_6.out)⟩; have n1_ : Aside0 (Kd.R k59 59 w41 w.heap.size (fun k_ => k_ ≠ gb504) u8 x8_2) := ⟨by rw [← hq_]; exact (by (with_reducible repeat (first | apply Kd.R_alloc | apply Kd.R_drewN | apply Kd.R_drew)); exact HO_8.out)⟩; have n2_ : Aside0 (w41.heap[gb504]? = some (.cells #[.bool a0_0, .string a0_1, .slice A0_2 l0_2.length c0_2] 25 (0, 0))) := ⟨by rw [← hq_]; exact (by (with_reducible repeat (first | refine blk_drewN ?_ _ | refine blk_drew ?_ | refine blk_alloc ?_ _)); exact BK504.out)⟩; have n3_ : Aside0 (Below w.heap.size w w41) := ⟨by rw [← hq_]; exact bel_⟩; have n4_ : Aside0 (Kd.C Kd.string w41 (some ad516) y512.length y512) := ⟨by rw [← hq_]; exact (by repeat (first | (with_reducible exact HR515.out) | (with_reducible refine Kd.C_alloc ?_ _) | (with_reducible refine Kd.C_drewN ?_ _) | (with_reducible refine Kd.C_drew ?_) | exact HR515.out))⟩; clear HO_6 HO_8 BK504 HB HR515 hq_; have HO_6 := n0_; have HO_8 := n1_; have BK504 := n2_; have HB := n3_; have HR515 := n4_; clear n0_ n1_ n2_ n3_ n4_))
                      have n0_ := Aside0.mk (Kd.R_drew HO_6.out)
                      have n1_ := Aside0.mk (Kd.R_drew HO_8.out)
                      have n2_ := Aside0.mk (blk_drew BK504.out)
                      have n3_ := Aside0.mk (Kd.C_drew HR515.out)
                      have n4_ := Aside0.mk (below_drew1 HB.out)
                      clear HO_6
                      clear HO_8
                      clear BK504
                      clear HR515
                      clear HB
                      have HO_6 := n0_
                      have HO_8 := n1_
                      have BK504 := n2_
                      have HR515 := n3_
                      have HB := n4_
                      clear n0_ n1_ n2_ n3_ n4_
                      have p518 : 0 ≤ (x9_2 : Int) := of_decide_eq_true (by first | (with_reducible assumption) | assumption)
                      have q518 : x9_2 < (t506.length : Int) := of_decide_eq_true (by first | (with_reducible assumption) | assumption)
                      obtain ⟨ad518, e518, hx518_0⟩ := Kd.at_string (Kd.R_reads' HO_6.out).2.2 x9_2 p518 q518
                      obtain rfl : ad516 = ad518 := (by injection e518)
                      replace p518 := eq_true p518
                      replace q518 := eq_true q518
                      refine start_ (n := 10) (S := fun w' => w'.cell? (ad516.add (x9_2).toNat) = some (.string (rdOf ByteArray.empty t506 x9_2))) (ds := [7, 8]) #[false, false, false, false, false, false, false, false, false, false] (by kernel_rfl) rfl rfl (hx518_0) (fun hHeld => ?_); refine with_tabW sequentlaw01_TypesVars.tab11 sequentlaw01_TypesVars.bits11 (fun HT_ HW_ => ?_)
                      generalize w41.drew = w43 at HO_6 HO_8 BK504 HR515 HB hx518_0 hHeld ⊢
                      refine pure_ (i := 0) (N := some 61) (v := ?_) (a' := ?_) #[true, false, false, false, false, false, false, false, false, false] rfl rfl (any_of HT_.out (by kernel_rfl)) (fun _ _ _ h => h) (Or.inl ⟨by rfl, ?_⟩) ?_ ?_
                      rotate_left
                      · intro w'
                        go_simp
                        with_reducible rfl
                      rotate_left
                      · simp only [Act.put, List.setIfInBounds_toArray, List.set_cons_zero, List.set_cons_succ, i64_w, i32_w]
                        rfl
                      refine pure_ (i := 1) (N := some 62) (v := ?_) (a' := ?_) #[true, true, false, false, false, false, false, false, false, false] rfl rfl (any_of HT_.out (by kernel_rfl)) (fun _ _ _ h => h) (Or.inl ⟨by rfl, ?_⟩) ?_ ?_
                      rotate_left
                      · intro w'
                        go_simp
                        with_reducible rfl
                      rotate_left
                      · simp only [Act.put, List.setIfInBounds_toArray, List.set_cons_zero, List.set_cons_succ, i64_w, i32_w]
                        rfl
                      refine pure_ (i := 2) (N := some 63) (v := ?_) (a' := ?_) #[true, true, true, false, false, false, false, false, false, false] rfl rfl (any_of HT_.out (by kernel_rfl)) (fun _ _ _ h => h) (Or.inl ⟨by rfl, ?_⟩) ?_ ?_
                      rotate_left
                      · intro w'
                        go_simp
                        with_reducible rfl
                      rotate_left
                      · simp only [Act.put, List.setIfInBounds_toArray, List.set_cons_zero, List.set_cons_succ, i64_w, i32_w]
                        rfl
                      refine pure_ (i := 3) (N := some 64) (v := ?_) (a' := ?_) #[true, true, true, true, false, false, false, false, false, false] rfl rfl (any_of HT_.out (by kernel_rfl)) (fun _ _ _ h => h) (Or.inl ⟨by rfl, ?_⟩) ?_ ?_
                      rotate_left
                      · intro w'
                        go_simp
                        with_reducible rfl
                      rotate_left
                      · simp only [Act.put, List.setIfInBounds_toArray, List.set_cons_zero, List.set_cons_succ, i64_w, i32_w]
                        rfl
                      refine take_ (i := 4) (N := some 65) (v := ?_) (a' := ?_) #[true, true, true, true, true, false, false, false, false, false] rfl rfl (take_ofW HT_.out HW_.out (by kernel_rfl)) (fun _ _ _ h => h) (Or.inl ⟨by rfl, ?_⟩) hHeld ?_ ?_
                      rotate_left
                      · intro w' s0
                        go_simp
                        with_reducible rfl
                      rotate_left
                      · simp only [Act.put, List.setIfInBounds_toArray, List.set_cons_zero, List.set_cons_succ, i64_w, i32_w]
                        rfl
                      refine one_ (i := 5) (N := some 66) #[true, true, true, true, true, true, false, false, false, false] rfl rfl (one_of HT_.out (by kernel_rfl)) (by decide) (fun K hK => ?_)
                      refine goes_ Try.func38 (by kernel_rfl) rfl #[] (by rfl) rfl rfl (by (try simp only [List.map_toArray, List.map_cons, List.map_nil]); first | done | rfl | (simp only [List.length_drop, List.length_take]; rfl)) ?_
                      with_reducible refine (types_Bool.calls  t519 t520 t521 _ A38.out).mono ?_
                      rintro e w44 ⟨v522, rfl, ho0, hb⟩
                      have HS0_ := (hb.cell (World.block_lt_of_cell? _ _ (hHeld))).trans (hHeld)
                      refine ⟨_, rfl, ?_⟩
                      have n0_ := Aside0.mk (Kd.R_below (by (with_reducible repeat (first | apply Kd.R_alloc | apply Kd.R_drewN | apply Kd.R_drew)); exact HO_6.out) hb)
                      have n1_ := Aside0.mk (Kd.R_elder' (by (with_reducible repeat (first | apply Kd.R_alloc | apply Kd.R_drewN | apply Kd.R_drew)); exact HO_8.out) (Kd.R_base ho0) hb)
                      have n2_ := Aside0.mk (Kd.R_lower (Kd.R_newB ho0 (g := gb504) (o := .cells #[.bool a0_0, .string a0_1, .slice A0_2 l0_2.length c0_2] 25 (0, 0)) (by (with_reducible repeat (first | refine blk_drewN ?_ _ | refine blk_drew ?_ | refine blk_alloc ?_ _)); exact BK504.out)) (below_size bel_))
                      have n3_ := Aside0.mk (blk_below (g := gb504) (o := .cells #[.bool a0_0, .string a0_1, .slice A0_2 l0_2.length c0_2] 25 (0, 0)) (by (with_reducible repeat (first | refine blk_drewN ?_ _ | refine blk_drew ?_ | refine blk_alloc ?_ _)); exact BK504.out) hb)
                      have n4_ := Aside0.mk (Kd.C_below (by repeat (first | (with_reducible exact HR515.out) | (with_reducible refine Kd.C_alloc ?_ _) | (with_reducible refine Kd.C_drewN ?_ _) | (with_reducible refine Kd.C_drew ?_) | exact HR515.out)) hb)
                      have n5_ := Aside0.mk (below_step bel_ hb)
                      clear HO_6
                      clear HO_8
                      clear BK504
                      clear HR515
                      clear HB
                      have HO_6 := n0_
                      have HO_8 := n1_
                      have HO523 := n2_
                      have BK504 := n3_
                      have HR515 := n4_
                      have HB := n5_
                      clear n0_ n1_ n2_ n3_ n4_ n5_
                      (try clear hb)
                      (try clear hb2)
                      (try clear hk)
                      (try clear hi)
                      (try clear ho0)
                      obtain ⟨Ao45, co45, eo45⟩ := Kd.R_slice HO523.out
                      (first | subst eo45 | (injection eo45 with f1_ f2_ f3_; have f4_ := f1_.symm; have f5_ := f3_.symm; clear f1_ f2_ f3_; subst f4_; subst f5_))
                      refine hK.out _ _ (HS0_) (fun hHeld => ?_)
                      clear hK K
                      refine norm_ (a' := ?_) ?_ ?_
                      rotate_left
                      · show Act.put _ (some 66) _ = _
                        simp only [Act.put, List.setIfInBounds_toArray, List.set_cons_zero, List.set_cons_succ, i64_w, i32_w]
                        rfl
                      refine pure_ (i := 6) (N := some 67) (v := ?_) (a' := ?_) #[true, true, true, true, true, true, true, false, false, false] rfl rfl (any_of HT_.out (by kernel_rfl)) (fun _ _ _ h => h) (Or.inl ⟨by rfl, ?_⟩) ?_ ?_
                      rotate_left
                      · intro w'
                        go_simp
                        with_reducible rfl
                      rotate_left
                      · simp only [Act.put, List.setIfInBounds_toArray, List.set_cons_zero, List.set_cons_succ, i64_w, i32_w]
                        rfl
                      refine last_ (i := 7) (N := some 68) #[true, true, true, true, true, true, true, true, false, false] rfl rfl (one_of HT_.out (by kernel_rfl)) (by decide) (fun K hK => ?_)
                      refine value_ (w1 := ?_) (v := ?_) (by rfl) rfl ?_ ?_
                      rotate_left 2
                      · go_simp
                        constructor
                        · rfl
                        · rfl
                      refine hK.out _ _ ?_
                      clear hK K
                      refine norm_ (a' := ?_) ?_ ?_
                      rotate_left
                      · show Act.put _ (some 68) _ = _
                        simp only [Act.put, List.setIfInBounds_toArray, List.set_cons_zero, List.set_cons_succ, i64_w, i32_w]
                        rfl
                      refine last_ (i := 8) (N := some 69) #[true, true, true, true, true, true, true, true, true, false] rfl rfl (one_of HT_.out (by kernel_rfl)) (by decide) (fun K hK => ?_)
                      refine Kd.R_append_step k59 (w0 := w) w.heap.size (by rfl) (.tmp 61) (.tmp 68) 22 59 (.agg #[(.string ⟨#[]⟩), (.bool false), (.string ⟨#[]⟩), (.slice none 0 0)]) 64 rfl Try.underlying22 info59 rfl (by decide) (by omega) u8 x8_2 (⟨rdOf ByteArray.empty t506 x9_2, (⟨t519, t520, t521⟩ : S25)⟩ : S59) [.string (rdOf ByteArray.empty t506 x9_2), .bool t519, .string t520, .slice Ao45 t521.length co45] (fun k_ => k_ ≠ gb504) (fun k_ => ((fun k_ => k_ ≠ gb504)) k_ ∧ some k_ ≠ (u8 : Value).ownBlock) rfl rfl ?aP (fun _ hk => hk) ?aF ?aO ?aB ?aS ?aL ?_
                      (case aP => exact k59_mkM _ _ _ (⟨rdOf ByteArray.empty t506 x9_2, (⟨t519, t520, t521⟩ : S25)⟩ : S59) (Kd.R_mono (Kd.R_apart' (HO523.out) (Kd.R_typed HO_8.out) (by decide)) (fun k_ hk => ⟨hk.1.2, hk.2⟩)))
                      (case aB => exact bel_)
                      (case aF => exact (fun k_ hk => Kd.freshB (g := gb504) (o := .cells #[.bool a0_0, .string a0_1, .slice A0_2 l0_2.length c0_2] 25 (0, 0)) (by (with_reducible repeat (first | refine blk_drewN ?_ _ | refine blk_drew ?_ | refine blk_alloc ?_ _)); exact BK504.out) k_ hk))
                      (case aO => exact (by (with_reducible repeat (first | apply Kd.R_alloc | apply Kd.R_drewN | apply Kd.R_drew)); exact Kd.R_mono HO_8.out (fun _ hk => hk.1)))
                      (case aS => exact (below_size bel_))
                      (case aL => have := LMc39.out; omega)
                      intro v525 w46 ho hb hg hat
                      rw [← Ny524.out] at ho
                      have n0_ := Aside0.mk (Kd.R_over' (by (with_reducible repeat (first | apply Kd.R_alloc | apply Kd.R_drewN | apply Kd.R_drew)); exact HO_6.out) (Kd.R_typed (by (with_reducible repeat (first | apply Kd.R_alloc | apply Kd.R_drewN | apply Kd.R_drew)); exact HO_8.out)) (by decide) hg)
                      have n1_ := Aside0.mk (blk_grown (g := gb504) (o := .cells #[.bool a0_0, .string a0_1, .slice A0_2 l0_2.length c0_2] 25 (0, 0)) (by (with_reducible repeat (first | refine blk_drewN ?_ _ | refine blk_drew ?_ | refine blk_alloc ?_ _)); exact BK504.out) hg (Kd.R_ne HO_8.out BK504.out (by decide)))
                      have n2_ := Aside0.mk (hb)
                      have n3_ := Aside0.mk ((show Kd.C Kd.string w46 (some ad516) y512.length y512 from by rw [Ny512.out]; exact Kd.C_take (m := (x9_2 : Int).toNat) ((Kd.R_reads' (Kd.R_over' (by (with_reducible repeat (first | apply Kd.R_alloc | apply Kd.R_drewN | apply Kd.R_drew)); exact HO_6.out) (Kd.R_typed (by (with_reducible repeat (first | apply Kd.R_alloc | apply Kd.R_drewN | apply Kd.R_drew)); exact HO_8.out)) (by decide) hg)).2.2) KL42.out))
                      have n4_ := Aside0.mk (ho)
                      clear HO_6
                      clear BK504
                      clear HB
                      clear HR515
                      clear HO_8
                      clear HO523
                      have HO_6 := n0_
                      have BK504 := n1_
                      have HB := n2_
                      have HR515 := n3_
                      have HO526 := n4_
                      clear n0_ n1_ n2_ n3_ n4_
                      clear ho hb hg hat
                      refine hK.out _ _ ?_
                      clear hK K
                      refine norm_ (a' := ?_) ?_ ?_
                      rotate_left
                      · show Act.put _ (some 69) _ = _
                        simp only [Act.put, List.setIfInBounds_toArray, List.set_cons_zero, List.set_cons_succ, i64_w, i32_w]
                        rfl
                      refine pure_ (i := 9) (N := some 8) (v := ?_) (a' := ?_) #[true, true, true, true, true, true, true, true, true, true] rfl rfl (any_of HT_.out (by kernel_rfl)) (fun _ _ _ h => h) (Or.inl ⟨by rfl, ?_⟩) ?_ ?_
                      rotate_left
                      · intro w'
                        go_simp
                        with_reducible rfl
                      rotate_left
                      · simp only [Act.put, List.setIfInBounds_toArray, List.set_cons_zero, List.set_cons_succ, i64_w, i32_w]
                        rfl
                      refine done_ (done_of HT_.out (by kernel_rfl)) ?_
                      try go_wp2
                      go_roundg k2
                      case measure => have := HJ4.out; have := HK2.out; omega
                      case rel => exact ⟨(y524), (wrap64 (x9_2 + 1)), (by first | rfl | (simp; done) | (simp [*]; done)), H', ⟨by have := HJ4.out; have := HK2.out; omega⟩, ⟨by (with_reducible repeat (first | apply Kd.R_alloc | apply Kd.R_drewN | apply Kd.R_drew)); exact HO_6.out⟩, ⟨by (with_reducible repeat (first | apply Kd.R_alloc | apply Kd.R_drewN | apply Kd.R_drew)); exact HO526.out⟩, ⟨by (with_reducible repeat (first | refine blk_drewN ?_ _ | refine blk_drew ?_ | refine blk_alloc ?_ _)); exact BK504.out⟩, ⟨bel_⟩⟩
                    · rw [if_neg c39] at H
                      exact absurd H (by simp)
                · rw [if_neg c32] at H
                  exact absurd H (by simp)
              · rw [if_neg c31] at H
                exact absurd H (by simp)
            · rw [if_neg c30] at H
              have c30b0 : decide (x9_2 < (t506.length : Int)) = false := decide_eq_false c30
              clear c30
              replace H := Option.bind_eq_some_iff.mp H
              obtain ⟨⟨t527, t528, t529, t532⟩, A470, H⟩ := H
              replace H : ((types_Vars.f k2 t527 t528 t529).bind fun bt534 => (if t532 = 0 then (if bt534.2 = 0 then (if (bt534.1.length : Int) = 0 then ((types_Size.f k2 t527 t528 t529).bind fun t538 => ((types_Size.f k2 a0_0 a0_1 l0_2).bind fun t539 => (sequentlaw01_TypesVars.j2 k2 l1 t505 t506 (t538 != t539) a0_0 a0_1 l0_2))) else (sequentlaw01_TypesVars.j2 k2 l1 t505 t506 true a0_0 a0_1 l0_2)) else (sequentlaw01_TypesVars.j2 k2 l1 t505 t506 true a0_0 a0_1 l0_2)) else (sequentlaw01_TypesVars.j2 k2 l1 t505 t506 true a0_0 a0_1 l0_2))) = some r := H
              have A47 := Aside0.mk A470
              clear A470
              replace H := Option.bind_eq_some_iff.mp H
              obtain ⟨⟨t534, t537⟩, A480, H⟩ := H
              replace H : (if t532 = 0 then (if t537 = 0 then (if (t534.length : Int) = 0 then ((types_Size.f k2 t527 t528 t529).bind fun t538 => ((types_Size.f k2 a0_0 a0_1 l0_2).bind fun t539 => (sequentlaw01_TypesVars.j2 k2 l1 t505 t506 (t538 != t539) a0_0 a0_1 l0_2))) else (sequentlaw01_TypesVars.j2 k2 l1 t505 t506 true a0_0 a0_1 l0_2)) else (sequentlaw01_TypesVars.j2 k2 l1 t505 t506 true a0_0 a0_1 l0_2)) else (sequentlaw01_TypesVars.j2 k2 l1 t505 t506 true a0_0 a0_1 l0_2)) = some r := H
              have A48 := Aside0.mk A480
              clear A480
              have HC49 := Aside0.mk H
              clear H
              obtain ⟨Ao50, co50, eo50⟩ := Kd.R_slice HO_6.out
              subst eo50
              have hcz51_0 : wr.cell? ⟨gb504, 0, none⟩ = some (.bool a0_0) := (blk_cell BK504.out 0).trans rfl
              have hcz51_1 : wr.cell? ⟨gb504, 1, none⟩ = some (.string a0_1) := (blk_cell BK504.out 1).trans rfl
              have hcz51_2 : wr.cell? ⟨gb504, 2, none⟩ = some (.slice A0_2 l0_2.length c0_2) := (blk_cell BK504.out 2).trans rfl
              have hfz51_0 := blk_frozen BK504.out 0
              have hfz51_1 := blk_frozen BK504.out 1
              have hfz51_2 := blk_frozen BK504.out 2
              obtain ⟨Ao52, co52, eo52⟩ := Kd.R_slice HO_8.out
              subst eo52
              go_upto_region 14 with (first | ((with_reducible refine gate_callee (f := 16) rfl ?_); refine goesL_ (some 73) rfl rfl Try.func16 (by kernel_rfl) rfl #[.slice Ao52 x8_2.length co52, .agg #[.bool a0_0, .string a0_1, .slice A0_2 l0_2.length c0_2]] rfl (by (try simp only [List.map_toArray, List.map_cons, List.map_nil]); first | done | rfl | (simp only [List.length_drop, List.length_take]; rfl)) ?_; (with_reducible refine (types_Inst.calls k2 _ _ x8_2 a0_0 a0_1 _ _ l0_2 t527 t528 t529 t532 _ ?side1 ?side2 ?side3 ?side4 A47.out).mono ?_); (case side1 => repeat (first | exact (Kd.R_reads' HO_8.out).2.2 | (with_reducible refine Kd.C_alloc ?_ _) | (with_reducible refine Kd.C_drewN ?_ _) | (with_reducible refine Kd.C_drew ?_))); (case side2 => exact (Kd.R_reads' HO_8.out).2.1); (case side3 => repeat (first | exact (Kd.C_below HR0_2.out HB.out) | (with_reducible refine Kd.C_alloc ?_ _) | (with_reducible refine Kd.C_drewN ?_ _) | (with_reducible refine Kd.C_drew ?_))); (case side4 => exact HC0_2.out); rintro e w53 ⟨v530, rfl, ho0, hb⟩; refine ⟨_, rfl, ?_⟩; have n0_ := Aside0.mk (Kd.R_below (by (with_reducible repeat (first | apply Kd.R_alloc | apply Kd.R_drewN | apply Kd.R_drew)); exact HO_6.out) hb); have n1_ := Aside0.mk (Kd.R_below (by (with_reducible repeat (first | apply Kd.R_alloc | apply Kd.R_drewN | apply Kd.R_drew)); exact HO_8.out) hb); have n2_ := Aside0.mk (Kd.V_lower (Kd.V_mono (ok' := fun k_ => some k_ ≠ (.slice Ao50 t506.length co50 : Value).ownBlock ∧ some k_ ≠ (.slice Ao52 x8_2.length co52 : Value).ownBlock ∧ k_ ≠ gb504) ho0 (fun k_ hk_ => ⟨(Kd.fresh' (Kd.R_lt (by (with_reducible repeat (first | apply Kd.R_alloc | apply Kd.R_drewN | apply Kd.R_drew)); exact HO_6.out)) k_ hk_), (Kd.fresh' (Kd.R_lt (by (with_reducible repeat (first | apply Kd.R_alloc | apply Kd.R_drewN | apply Kd.R_drew)); exact HO_8.out)) k_ hk_), (Kd.freshB (g := gb504) (o := .cells #[.bool a0_0, .string a0_1, .slice A0_2 l0_2.length c0_2] 25 (0, 0)) (by (with_reducible repeat (first | refine blk_drewN ?_ _ | refine blk_drew ?_ | refine blk_alloc ?_ _)); exact BK504.out) k_ hk_)⟩)) (below_size bel_)); have n3_ := Aside0.mk (blk_below (g := gb504) (o := .cells #[.bool a0_0, .string a0_1, .slice A0_2 l0_2.length c0_2] 25 (0, 0)) (by (with_reducible repeat (first | refine blk_drewN ?_ _ | refine blk_drew ?_ | refine blk_alloc ?_ _)); exact BK504.out) hb); have n4_ := Aside0.mk (below_step bel_ hb); clear HO_6; clear HO_8; clear BK504; clear HB; have HO_6 := n0_; have HO_8 := n1_; have HO531 := n2_; have BK504 := n3_; have HB := n4_; clear n0_ n1_ n2_ n3_ n4_; (try clear hb); (try clear hb2); (try clear hk); (try clear hi); (try clear ho0)) | ((with_reducible refine gate_dst (N := 10) rfl ?_); (try (refine gate_guard (by rfl) ?_; dsimp only)); refine box_event ?hg (N := 10) ?hd (cs := #[.bool false, .string (⟨#[]⟩ : ByteArray), .slice none 0 0]) (t := 25) ?hr ?_; (case hd => rfl); (case hg => rfl); (case hr => first | (go_simp; done) | (go_simp; rfl)); intro gb533 hg w54 hbox hb; have n0_ := Aside0.mk (Kd.R_below (by (with_reducible repeat (first | apply Kd.R_alloc | apply Kd.R_drewN | apply Kd.R_drew)); exact HO_6.out) hb); have n1_ := Aside0.mk (Kd.R_below (Kd.R_elderB (by (with_reducible repeat (first | apply Kd.R_alloc | apply Kd.R_drewN | apply Kd.R_drew)); exact HO_8.out) gb533 (Nat.le_of_eq hg.symm)) hb); have n2_ := Aside0.mk (Kd.V_below (Kd.V_elderB (by (with_reducible repeat (first | apply Kd.V_alloc | apply Kd.V_drewN | apply Kd.V_drew)); exact HO531.out) gb533 (Nat.le_of_eq hg.symm)) hb); have n3_ := Aside0.mk (blk_below (g := gb504) (o := .cells #[.bool a0_0, .string a0_1, .slice A0_2 l0_2.length c0_2] 25 (0, 0)) (by (with_reducible repeat (first | refine blk_drewN ?_ _ | refine blk_drew ?_ | refine blk_alloc ?_ _)); exact BK504.out) hb); have n4_ := Aside0.mk (below_step bel_ hb); have n5_ := Aside0.mk (hbox); have n6_ := Aside0.mk ((by rw [hg]; exact (below_size bel_) : w.heap.size ≤ gb533)); have n7_ := Aside0.mk ((by rw [hg]; exact (below_size bel_) : w.heap.size ≤ gb533)); have n8_ := Aside0.mk ((by rw [hg]; exact Nat.ne_of_lt (blk_lt (g := gb504) (o := .cells #[.bool a0_0, .string a0_1, .slice A0_2 l0_2.length c0_2] 25 (0, 0)) (by (with_reducible repeat (first | refine blk_drewN ?_ _ | refine blk_drew ?_ | refine blk_alloc ?_ _)); exact BK504.out)) : gb504 ≠ gb533)); have n9_ := Aside0.mk ((by rw [hg]; exact Nat.ne_of_gt (blk_lt (g := gb504) (o := .cells #[.bool a0_0, .string a0_1, .slice A0_2 l0_2.length c0_2] 25 (0, 0)) (by (with_reducible repeat (first | refine blk_drewN ?_ _ | refine blk_drew ?_ | refine blk_alloc ?_ _)); exact BK504.out)) : gb533 ≠ gb504)); clear HO_6; clear HO_8; clear HO531; clear BK504; clear HB; have HO_6 := n0_; have HO_8 := n1_; have HO531 := n2_; have BK504 := n3_; have HB := n4_; have BK533 := n5_; have GW533 := n6_; have GE533 := n7_; have NB504_533 := n8_; have NB533_504 := n9_; clear n0_ n1_ n2_ n3_ n4_ n5_ n6_ n7_ n8_ n9_; clear hb hbox hg; have hnb55 := NB533_504.out; have hnc55 := NB504_533.out; have hcz56_0 : w54.cell? ⟨gb533, 0, none⟩ = some (.bool false) := (blk_cell BK533.out 0).trans rfl; have hcz56_1 : w54.cell? ⟨gb533, 1, none⟩ = some (.string (⟨#[]⟩ : ByteArray)) := (blk_cell BK533.out 1).trans rfl; have hcz56_2 : w54.cell? ⟨gb533, 2, none⟩ = some (.slice none 0 0) := (blk_cell BK533.out 2).trans rfl; have hfz56_0 := blk_frozen BK533.out 0; have hfz56_1 := blk_frozen BK533.out 1; have hfz56_2 := blk_frozen BK533.out 2; obtain ⟨Ao57, co57, eo57⟩ := Kd.V_slice HO531.out; subst eo57) | ((with_reducible refine gate_callee (f := 23) rfl ?_); refine goesL_ (some 78) rfl rfl Try.func23 (by kernel_rfl) rfl #[.agg #[.bool t527, .string t528, .slice Ao57 t529.length co57]] rfl (by (try simp only [List.map_toArray, List.map_cons, List.map_nil]); first | done | rfl | (simp only [List.length_drop, List.length_take]; rfl)) ?_; (with_reducible refine (types_Vars.calls k2 t527 t528 _ _ t529 t534 t537 _ ?side1 ?side2 A48.out).mono ?_); (case side1 => refine (Kd.V_reads' (e := 25) (base := w.heap.size) (ok := fun k_ => ((some k_ ≠ (.slice Ao50 t506.length co50 : Value).ownBlock ∧ (some k_ ≠ (.slice Ao52 x8_2.length co52 : Value).ownBlock ∧ k_ ≠ gb504)) ∧ k_ ≠ gb533)) (n := t529.length) (c := co57) ?_).2.2; exact (by (with_reducible repeat (first | apply Kd.V_alloc | apply Kd.V_drewN | apply Kd.V_drew)); exact (Kd.V_mono (Kd.V_far (p := ⟨gb533, 2, none⟩) (Kd.V_far (p := ⟨gb533, 1, none⟩) (Kd.V_far (p := ⟨gb533, 0, none⟩) (Kd.V_mono HO531.out (fun k_ hk => (⟨hk, hk.2⟩ : _ ∧ k_ ≠ gb533))) (fun _ hk => hk.2) (.bool t527)) (fun _ hk => hk.2) (.string t528)) (fun _ hk => hk.2) (.slice Ao57 t529.length co57)) (fun _ h_ => h_.1)))); (case side2 => exact (Kd.V_reads' HO531.out).2.1); rintro e w58 ⟨v535, rfl, ho0, hb⟩; refine ⟨_, rfl, ?_⟩; have n0_ := Aside0.mk (Kd.R_elder' (by (with_reducible repeat (first | apply Kd.R_alloc | apply Kd.R_drewN | apply Kd.R_drew)); exact (Kd.R_mono (Kd.R_far (p := ⟨gb533, 2, none⟩) (Kd.R_far (p := ⟨gb533, 1, none⟩) (Kd.R_far (p := ⟨gb533, 0, none⟩) (Kd.R_types HO_6.out BK533.out (by decide)) (fun _ hk => hk.2) (.bool t527)) (fun _ hk => hk.2) (.string t528)) (fun _ hk => hk.2) (.slice Ao57 t529.length co57)) (fun _ h_ => h_.1))) (Kd.R_base ho0) hb); have n1_ := Aside0.mk (Kd.R_below (by (with_reducible repeat (first | apply Kd.R_alloc | apply Kd.R_drewN | apply Kd.R_drew)); exact (Kd.R_mono (Kd.R_far (p := ⟨gb533, 2, none⟩) (Kd.R_far (p := ⟨gb533, 1, none⟩) (Kd.R_far (p := ⟨gb533, 0, none⟩) (Kd.R_mono HO_8.out (fun k_ hk => (⟨hk, hk.2⟩ : _ ∧ k_ ≠ gb533))) (fun _ hk => hk.2) (.bool t527)) (fun _ hk => hk.2) (.string t528)) (fun _ hk => hk.2) (.slice Ao57 t529.length co57)) (fun _ h_ => h_.1))) hb); have n2_ := Aside0.mk (Kd.V_elder' (by (with_reducible repeat (first | apply Kd.V_alloc | apply Kd.V_drewN | apply Kd.V_drew)); exact (Kd.V_mono (Kd.V_far (p := ⟨gb533, 2, none⟩) (Kd.V_far (p := ⟨gb533, 1, none⟩) (Kd.V_far (p := ⟨gb533, 0, none⟩) (Kd.V_mono HO531.out (fun k_ hk => (⟨hk, hk.2⟩ : _ ∧ k_ ≠ gb533))) (fun _ hk => hk.2) (.bool t527)) (fun _ hk => hk.2) (.string t528)) (fun _ hk => hk.2) (.slice Ao57 t529.length co57)) (fun _ h_ => h_.1))) (Kd.R_base ho0) hb); have n3_ := Aside0.mk (Kd.R_lower (Kd.R_new' ho0 (Kd.R_lt (by (with_reducible repeat (first | apply Kd.R_alloc | apply Kd.R_drewN | apply Kd.R_drew)); exact (Kd.R_mono (Kd.R_far (p := ⟨gb533, 2, none⟩) (Kd.R_far (p := ⟨gb533, 1, none⟩) (Kd.R_far (p := ⟨gb533, 0, none⟩) (Kd.R_types HO_6.out BK533.out (by decide)) (fun _ hk => hk.2) (.bool t527)) (fun _ hk => hk.2) (.string t528)) (fun _ hk => hk.2) (.slice Ao57 t529.length co57)) (fun _ h_ => h_.1))))) (below_size bel_)); have n4_ := Aside0.mk (blk_below (g := gb504) (o := .cells #[.bool a0_0, .string a0_1, .slice A0_2 l0_2.length c0_2] 25 (0, 0)) (by (with_reducible repeat (first | refine blk_drewN ?_ _ | refine blk_drew ?_ | refine blk_alloc ?_ _)); refine blk_far ?_ NB504_533.out _; (with_reducible repeat (first | refine blk_drewN ?_ _ | refine blk_drew ?_ | refine blk_alloc ?_ _)); refine blk_far ?_ NB504_533.out _; (with_reducible repeat (first | refine blk_drewN ?_ _ | refine blk_drew ?_ | refine blk_alloc ?_ _)); refine blk_far ?_ NB504_533.out _; (with_reducible repeat (first | refine blk_drewN ?_ _ | refine blk_drew ?_ | refine blk_alloc ?_ _)); exact BK504.out) hb); have n5_ := Aside0.mk (blk_below (g := gb533) (o := .cells #[.bool t527, .string t528, .slice Ao57 t529.length co57] 25 (0, 0)) (by (with_reducible repeat (first | refine blk_drewN ?_ _ | refine blk_drew ?_ | refine blk_alloc ?_ _)); refine blk_put (cs := #[.bool t527, .string t528, .slice none 0 0]) ?_ 2 _ rfl; (with_reducible repeat (first | refine blk_drewN ?_ _ | refine blk_drew ?_ | refine blk_alloc ?_ _)); refine blk_put (cs := #[.bool t527, .string (⟨#[]⟩ : ByteArray), .slice none 0 0]) ?_ 1 _ rfl; (with_reducible repeat (first | refine blk_drewN ?_ _ | refine blk_drew ?_ | refine blk_alloc ?_ _)); refine blk_put (cs := #[.bool false, .string (⟨#[]⟩ : ByteArray), .slice none 0 0]) ?_ 0 _ rfl; (with_reducible repeat (first | refine blk_drewN ?_ _ | refine blk_drew ?_ | refine blk_alloc ?_ _)); exact BK533.out) hb); have n6_ := Aside0.mk (below_step bel_ hb); clear HO_6; clear HO_8; clear HO531; clear BK504; clear BK533; clear HB; have HO_6 := n0_; have HO_8 := n1_; have HO531 := n2_; have HO536 := n3_; have BK504 := n4_; have BK533 := n5_; have HB := n6_; clear n0_ n1_ n2_ n3_ n4_ n5_ n6_; (try clear hb); (try clear hb2); (try clear hk); (try clear hi); (try clear ho0)))
              (try simp only [Act.put, List.setIfInBounds_toArray, List.set_cons_zero, List.set_cons_succ])
              go_cut [98] (fun v98 wc => ∃ (kq : Nat) (x98_48 : Bool), v98 = .bool x98_48 ∧ Aside0 (sequentlaw01_TypesVars.j2 kq l1 t505 t506 x98_48 a0_0 a0_1 l0_2 = some r) ∧ Aside0 (kq ≤ k2) ∧ Aside0 (Kd.R Kd.string 9 wc w.heap.size (fun _ => True) (.slice Ao50 t506.length co50) t506) ∧ Aside0 (Kd.V k25 25 wc w.heap.size (fun k_ => some k_ ≠ ((.slice Ao50 t506.length co50) : Value).ownBlock ∧ k_ ≠ gb504 ∧ k_ ≠ gb533) (.slice Ao57 t529.length co57) t529) ∧ Aside0 (wc.heap[gb504]? = some (.cells #[.bool a0_0, .string a0_1, (.slice A0_2 l0_2.length c0_2)] 25 (0, 0))) ∧ Aside0 (wc.heap[gb533]? = some (.cells #[.bool t527, .string t528, (.slice Ao57 t529.length co57)] 25 (0, 0))) ∧ Aside0 (Below w.heap.size w wc))
              case first =>
                have H := HC49.out
                clear HC49
                by_cases c59 : t532 = 0
                · rw [if_pos c59] at H
                  have c59b0 : (t532 == 0) = true := beq_iff_eq.mpr c59
                  have c59b1 : (t532 != 0) = false := bne_eq_false_iff_eq.mpr c59
                  clear c59
                  (first | rw [c59b0] | (simp only [i64_w, i32_w]; rw [c59b0]) | skip)
                  by_cases c60 : t537 = 0
                  · rw [if_pos c60] at H
                    have c60b0 : (t537 == 0) = true := beq_iff_eq.mpr c60
                    have c60b1 : (t537 != 0) = false := bne_eq_false_iff_eq.mpr c60
                    clear c60
                    by_cases c61 : (t534.length : Int) = 0
                    · rw [if_pos c61] at H
                      have c61b0 : ((t534.length : Int) == 0) = true := beq_iff_eq.mpr c61
                      have c61b1 : ((t534.length : Int) != 0) = false := bne_eq_false_iff_eq.mpr c61
                      clear c61
                      replace H := Option.bind_eq_some_iff.mp H
                      obtain ⟨t538, A620, H⟩ := H
                      replace H : ((types_Size.f k2 a0_0 a0_1 l0_2).bind fun t539 => (sequentlaw01_TypesVars.j2 k2 l1 t505 t506 (t538 != t539) a0_0 a0_1 l0_2)) = some r := H
                      have A62 := Aside0.mk A620
                      clear A620
                      replace H := Option.bind_eq_some_iff.mp H
                      obtain ⟨t539, A630, H⟩ := H
                      replace H : (sequentlaw01_TypesVars.j2 k2 l1 t505 t506 (t538 != t539) a0_0 a0_1 l0_2) = some r := H
                      have A63 := Aside0.mk A630
                      clear A630
                      have H' := Aside0.mk H
                      clear H
                      try go_wp2
                      have n0_ := Aside0.mk (Kd.R_drew HO_6.out)
                      have n1_ := Aside0.mk (Kd.R_drew HO_8.out)
                      have n2_ := Aside0.mk (Kd.V_drew HO531.out)
                      have n3_ := Aside0.mk (Kd.R_drew HO536.out)
                      have n4_ := Aside0.mk (blk_drew BK504.out)
                      have n5_ := Aside0.mk (blk_drew BK533.out)
                      have n6_ := Aside0.mk (below_drew1 HB.out)
                      clear HO_6
                      clear HO_8
                      clear HO531
                      clear HO536
                      clear BK504
                      clear BK533
                      clear HB
                      have HO_6 := n0_
                      have HO_8 := n1_
                      have HO531 := n2_
                      have HO536 := n3_
                      have BK504 := n4_
                      have BK533 := n5_
                      have HB := n6_
                      clear n0_ n1_ n2_ n3_ n4_ n5_ n6_
                      obtain ⟨Ao65, co65, eo65⟩ := Kd.R_slice HO536.out
                      (first | subst eo65 | (injection eo65 with f1_ f2_ f3_; have f4_ := f1_.symm; have f5_ := f3_.symm; clear f1_ f2_ f3_; subst f4_; subst f5_))
                      refine start_ (n := 18) (S := fun w' => w'.cell? ⟨gb533, 0, none⟩ = some (.bool t527) ∧ w'.cell? ⟨gb533, 1, none⟩ = some (.string t528) ∧ w'.cell? ⟨gb533, 2, none⟩ = some (.slice Ao57 t529.length co57) ∧ w'.cell? ⟨gb504, 0, none⟩ = some (.bool a0_0) ∧ w'.cell? ⟨gb504, 1, none⟩ = some (.string a0_1) ∧ w'.cell? ⟨gb504, 2, none⟩ = some (.slice A0_2 l0_2.length c0_2)) (ds := []) #[false, false, false, false, false, false, false, false, false, false, false, false, false, false, false, false, false, false] (by kernel_rfl) rfl rfl ⟨(blk_cell BK533.out 0).trans rfl, (blk_cell BK533.out 1).trans rfl, (blk_cell BK533.out 2).trans rfl, (blk_cell BK504.out 0).trans rfl, (blk_cell BK504.out 1).trans rfl, (blk_cell BK504.out 2).trans rfl⟩ (fun hHeld => ?_); refine with_tabW sequentlaw01_TypesVars.tab14 sequentlaw01_TypesVars.bits14 (fun HT_ HW_ => ?_)
                      generalize w58.drew = w64 at HO_6 HO_8 HO531 HO536 BK504 BK533 HB hHeld ⊢
                      refine pure_ (i := 0) (N := some 81) (v := ?_) (a' := ?_) #[true, false, false, false, false, false, false, false, false, false, false, false, false, false, false, false, false, false] rfl rfl (any_of HT_.out (by kernel_rfl)) (fun _ _ _ h => h) (Or.inl ⟨by rfl, ?_⟩) ?_ ?_
                      rotate_left
                      · intro w'
                        go_simp
                        with_reducible rfl
                      rotate_left
                      · simp only [Act.put, List.setIfInBounds_toArray, List.set_cons_zero, List.set_cons_succ, i64_w, i32_w]
                        rfl
                      refine pure_ (i := 1) (N := some 82) (v := ?_) (a' := ?_) #[true, true, false, false, false, false, false, false, false, false, false, false, false, false, false, false, false, false] rfl rfl (any_of HT_.out (by kernel_rfl)) (fun _ _ _ h => h) (Or.inl ⟨by rfl, ?_⟩) ?_ ?_
                      rotate_left
                      · intro w'
                        go_simp
                        with_reducible rfl
                      rotate_left
                      · simp only [Act.put, List.setIfInBounds_toArray, List.set_cons_zero, List.set_cons_succ, i64_w, i32_w]
                        rfl
                      refine pure_ (i := 2) (N := some 83) (v := ?_) (a' := ?_) #[true, true, true, false, false, false, false, false, false, false, false, false, false, false, false, false, false, false] rfl rfl (any_of HT_.out (by kernel_rfl)) (fun _ _ _ h => h) (Or.inl ⟨by rfl, ?_⟩) ?_ ?_
                      rotate_left
                      · intro w'
                        go_simp
                        with_reducible rfl
                      rotate_left
                      · simp only [Act.put, List.setIfInBounds_toArray, List.set_cons_zero, List.set_cons_succ, i64_w, i32_w]
                        rfl
                      refine pure_ (i := 3) (N := some 84) (v := ?_) (a' := ?_) #[true, true, true, true, false, false, false, false, false, false, false, false, false, false, false, false, false, false] rfl rfl (any_of HT_.out (by kernel_rfl)) (fun _ _ _ h => h) (Or.inl ⟨by rfl, ?_⟩) ?_ ?_
                      rotate_left
                      · intro w'
                        go_simp
                        with_reducible rfl
                      rotate_left
                      · simp only [Act.put, List.setIfInBounds_toArray, List.set_cons_zero, List.set_cons_succ, i64_w, i32_w]
                        rfl
                      refine pure_ (i := 4) (N := some 85) (v := ?_) (a' := ?_) #[true, true, true, true, true, false, false, false, false, false, false, false, false, false, false, false, false, false] rfl rfl (any_of HT_.out (by kernel_rfl)) (fun _ _ _ h => h) (Or.inl ⟨by rfl, ?_⟩) ?_ ?_
                      rotate_left
                      · intro w'
                        go_simp
                        with_reducible rfl
                      rotate_left
                      · simp only [Act.put, List.setIfInBounds_toArray, List.set_cons_zero, List.set_cons_succ, i64_w, i32_w]
                        rfl
                      refine pure_ (i := 5) (N := some 86) (v := ?_) (a' := ?_) #[true, true, true, true, true, true, false, false, false, false, false, false, false, false, false, false, false, false] rfl rfl (any_of HT_.out (by kernel_rfl)) (fun _ _ _ h => h) (Or.inl ⟨by rfl, ?_⟩) ?_ ?_
                      rotate_left
                      · intro w'
                        go_simp
                        with_reducible rfl
                      rotate_left
                      · simp only [Act.put, List.setIfInBounds_toArray, List.set_cons_zero, List.set_cons_succ, i64_w, i32_w]
                        rfl
                      refine pure_ (i := 6) (N := some 87) (v := ?_) (a' := ?_) #[true, true, true, true, true, true, true, false, false, false, false, false, false, false, false, false, false, false] rfl rfl (any_of HT_.out (by kernel_rfl)) (fun _ _ _ h => h) (Or.inl ⟨by rfl, ?_⟩) ?_ ?_
                      rotate_left
                      · intro w'
                        go_simp
                        with_reducible rfl
                      rotate_left
                      · simp only [Act.put, List.setIfInBounds_toArray, List.set_cons_zero, List.set_cons_succ, i64_w, i32_w]
                        rfl
                      refine pure_ (i := 7) (N := some 88) (v := ?_) (a' := ?_) #[true, true, true, true, true, true, true, true, false, false, false, false, false, false, false, false, false, false] rfl rfl (any_of HT_.out (by kernel_rfl)) (fun _ _ _ h => h) (Or.inl ⟨by rfl, ?_⟩) ?_ ?_
                      rotate_left
                      · intro w'
                        go_simp
                        with_reducible rfl
                      rotate_left
                      · simp only [Act.put, List.setIfInBounds_toArray, List.set_cons_zero, List.set_cons_succ, i64_w, i32_w]
                        rfl
                      refine pure_ (i := 8) (N := some 89) (v := ?_) (a' := ?_) #[true, true, true, true, true, true, true, true, true, false, false, false, false, false, false, false, false, false] rfl rfl (any_of HT_.out (by kernel_rfl)) (fun _ _ _ h => h) (Or.inl ⟨by rfl, ?_⟩) ?_ ?_
                      rotate_left
                      · intro w'
                        go_simp
                        with_reducible rfl
                      rotate_left
                      · simp only [Act.put, List.setIfInBounds_toArray, List.set_cons_zero, List.set_cons_succ, i64_w, i32_w]
                        rfl
                      refine pure_ (i := 9) (N := some 90) (v := ?_) (a' := ?_) #[true, true, true, true, true, true, true, true, true, true, false, false, false, false, false, false, false, false] rfl rfl (any_of HT_.out (by kernel_rfl)) (fun _ _ _ h => h) (Or.inl ⟨by rfl, ?_⟩) ?_ ?_
                      rotate_left
                      · intro w'
                        go_simp
                        with_reducible rfl
                      rotate_left
                      · simp only [Act.put, List.setIfInBounds_toArray, List.set_cons_zero, List.set_cons_succ, i64_w, i32_w]
                        rfl
                      refine pure_ (i := 10) (N := some 91) (v := ?_) (a' := ?_) #[true, true, true, true, true, true, true, true, true, true, true, false, false, false, false, false, false, false] rfl rfl (any_of HT_.out (by kernel_rfl)) (fun _ _ _ h => h) (Or.inl ⟨by rfl, ?_⟩) ?_ ?_
                      rotate_left
                      · intro w'
                        go_simp
                        with_reducible rfl
                      rotate_left
                      · simp only [Act.put, List.setIfInBounds_toArray, List.set_cons_zero, List.set_cons_succ, i64_w, i32_w]
                        rfl
                      refine pure_ (i := 11) (N := some 92) (v := ?_) (a' := ?_) #[true, true, true, true, true, true, true, true, true, true, true, true, false, false, false, false, false, false] rfl rfl (any_of HT_.out (by kernel_rfl)) (fun _ _ _ h => h) (Or.inl ⟨by rfl, ?_⟩) ?_ ?_
                      rotate_left
                      · intro w'
                        go_simp
                        with_reducible rfl
                      rotate_left
                      · simp only [Act.put, List.setIfInBounds_toArray, List.set_cons_zero, List.set_cons_succ, i64_w, i32_w]
                        rfl
                      refine take_ (i := 12) (N := some 93) (v := ?_) (a' := ?_) #[true, true, true, true, true, true, true, true, true, true, true, true, true, false, false, false, false, false] rfl rfl (take_ofW HT_.out HW_.out (by kernel_rfl)) (fun _ _ _ h => h) (Or.inl ⟨by rfl, ?_⟩) hHeld ?_ ?_
                      rotate_left
                      · rintro w' ⟨s0, s1, s2, s3, s4, s5⟩
                        go_simp
                        with_reducible rfl
                      rotate_left
                      · simp only [Act.put, List.setIfInBounds_toArray, List.set_cons_zero, List.set_cons_succ, i64_w, i32_w]
                        rfl
                      refine take_ (i := 14) (N := some 95) (v := ?_) (a' := ?_) #[true, true, true, true, true, true, true, true, true, true, true, true, true, false, true, false, false, false] rfl rfl (take_ofW HT_.out HW_.out (by kernel_rfl)) (fun _ _ _ h => h) (Or.inl ⟨by rfl, ?_⟩) hHeld ?_ ?_
                      rotate_left
                      · rintro w' ⟨s0, s1, s2, s3, s4, s5⟩
                        go_simp
                        with_reducible rfl
                      rotate_left
                      · simp only [Act.put, List.setIfInBounds_toArray, List.set_cons_zero, List.set_cons_succ, i64_w, i32_w]
                        rfl
                      refine one_ (i := 13) (N := some 94) #[true, true, true, true, true, true, true, true, true, true, true, true, true, true, true, false, false, false] rfl rfl (one_of HT_.out (by kernel_rfl)) (by decide) (fun K hK => ?_)
                      refine goes_ Try.func30 (by kernel_rfl) rfl #[.agg #[.bool t527, .string t528, .slice Ao57 t529.length co57]] (by rfl) rfl rfl (by (try simp only [List.map_toArray, List.map_cons, List.map_nil]); first | done | rfl | (simp only [List.length_drop, List.length_take]; rfl)) ?_
                      with_reducible refine (types_Size.calls k2 t527 t528 _ _ t529 t538 _ ?side1 ?side2 A62.out).mono ?_
                      (case side1 => repeat (first | exact (Kd.V_reads' HO531.out).2.2 | (with_reducible refine Kd.C_alloc ?_ _) | (with_reducible refine Kd.C_drewN ?_ _) | (with_reducible refine Kd.C_drew ?_)))
                      (case side2 => exact (Kd.V_reads' HO531.out).2.1)
                      rintro e w66 ⟨rfl, hb⟩
                      refine ⟨_, rfl, ?_⟩
                      have n0_ := Aside0.mk (Kd.R_below (by (with_reducible repeat (first | apply Kd.R_alloc | apply Kd.R_drewN | apply Kd.R_drew)); exact HO_6.out) hb)
                      have n1_ := Aside0.mk (Kd.R_below (by (with_reducible repeat (first | apply Kd.R_alloc | apply Kd.R_drewN | apply Kd.R_drew)); exact HO_8.out) hb)
                      have n2_ := Aside0.mk (Kd.V_below (by (with_reducible repeat (first | apply Kd.V_alloc | apply Kd.V_drewN | apply Kd.V_drew)); exact HO531.out) hb)
                      have n3_ := Aside0.mk (Kd.R_below (by (with_reducible repeat (first | apply Kd.R_alloc | apply Kd.R_drewN | apply Kd.R_drew)); exact HO536.out) hb)
                      have n4_ := Aside0.mk (blk_below (g := gb504) (o := .cells #[.bool a0_0, .string a0_1, .slice A0_2 l0_2.length c0_2] 25 (0, 0)) (by (with_reducible repeat (first | refine blk_drewN ?_ _ | refine blk_drew ?_ | refine blk_alloc ?_ _)); exact BK504.out) hb)
                      have n5_ := Aside0.mk (blk_below (g := gb533) (o := .cells #[.bool t527, .string t528, .slice Ao57 t529.length co57] 25 (0, 0)) (by (with_reducible repeat (first | refine blk_drewN ?_ _ | refine blk_drew ?_ | refine blk_alloc ?_ _)); exact BK533.out) hb)
                      have n6_ := Aside0.mk (below_step bel_ hb)
                      clear HO_6
                      clear HO_8
                      clear HO531
                      clear HO536
                      clear BK504
                      clear BK533
                      clear HB
                      have HO_6 := n0_
                      have HO_8 := n1_
                      have HO531 := n2_
                      have HO536 := n3_
                      have BK504 := n4_
                      have BK533 := n5_
                      have HB := n6_
                      clear n0_ n1_ n2_ n3_ n4_ n5_ n6_
                      (try clear hb)
                      (try clear hb2)
                      (try clear hk)
                      (try clear hi)
                      refine hK.out _ _ ⟨(blk_cell BK533.out 0).trans rfl, (blk_cell BK533.out 1).trans rfl, (blk_cell BK533.out 2).trans rfl, (blk_cell BK504.out 0).trans rfl, (blk_cell BK504.out 1).trans rfl, (blk_cell BK504.out 2).trans rfl⟩ (fun hHeld => ?_)
                      clear hK K
                      refine norm_ (a' := ?_) ?_ ?_
                      rotate_left
                      · show Act.put _ (some 94) _ = _
                        simp only [Act.put, List.setIfInBounds_toArray, List.set_cons_zero, List.set_cons_succ, i64_w, i32_w]
                        rfl
                      refine one_ (i := 15) (N := some 96) #[true, true, true, true, true, true, true, true, true, true, true, true, true, true, true, true, false, false] rfl rfl (one_of HT_.out (by kernel_rfl)) (by decide) (fun K hK => ?_)
                      refine goes_ Try.func30 (by kernel_rfl) rfl #[.agg #[.bool a0_0, .string a0_1, .slice A0_2 l0_2.length c0_2]] (by rfl) rfl rfl (by (try simp only [List.map_toArray, List.map_cons, List.map_nil]); first | done | rfl | (simp only [List.length_drop, List.length_take]; rfl)) ?_
                      with_reducible refine (types_Size.calls k2 a0_0 a0_1 _ _ l0_2 t539 _ ?side1 ?side2 A63.out).mono ?_
                      (case side1 => repeat (first | exact (Kd.C_below HR0_2.out HB.out) | (with_reducible refine Kd.C_alloc ?_ _) | (with_reducible refine Kd.C_drewN ?_ _) | (with_reducible refine Kd.C_drew ?_)))
                      (case side2 => exact HC0_2.out)
                      rintro e w67 ⟨rfl, hb⟩
                      refine ⟨_, rfl, ?_⟩
                      have n0_ := Aside0.mk (Kd.R_below (by (with_reducible repeat (first | apply Kd.R_alloc | apply Kd.R_drewN | apply Kd.R_drew)); exact HO_6.out) hb)
                      have n1_ := Aside0.mk (Kd.R_below (by (with_reducible repeat (first | apply Kd.R_alloc | apply Kd.R_drewN | apply Kd.R_drew)); exact HO_8.out) hb)
                      have n2_ := Aside0.mk (Kd.V_below (by (with_reducible repeat (first | apply Kd.V_alloc | apply Kd.V_drewN | apply Kd.V_drew)); exact HO531.out) hb)
                      have n3_ := Aside0.mk (Kd.R_below (by (with_reducible repeat (first | apply Kd.R_alloc | apply Kd.R_drewN | apply Kd.R_drew)); exact HO536.out) hb)
                      have n4_ := Aside0.mk (blk_below (g := gb504) (o := .cells #[.bool a0_0, .string a0_1, .slice A0_2 l0_2.length c0_2] 25 (0, 0)) (by (with_reducible repeat (first | refine blk_drewN ?_ _ | refine blk_drew ?_ | refine blk_alloc ?_ _)); exact BK504.out) hb)
                      have n5_ := Aside0.mk (blk_below (g := gb533) (o := .cells #[.bool t527, .string t528, .slice Ao57 t529.length co57] 25 (0, 0)) (by (with_reducible repeat (first | refine blk_drewN ?_ _ | refine blk_drew ?_ | refine blk_alloc ?_ _)); exact BK533.out) hb)
                      have n6_ := Aside0.mk (below_step bel_ hb)
                      clear HO_6
                      clear HO_8
                      clear HO531
                      clear HO536
                      clear BK504
                      clear BK533
                      clear HB
                      have HO_6 := n0_
                      have HO_8 := n1_
                      have HO531 := n2_
                      have HO536 := n3_
                      have BK504 := n4_
                      have BK533 := n5_
                      have HB := n6_
                      clear n0_ n1_ n2_ n3_ n4_ n5_ n6_
                      (try clear hb)
                      (try clear hb2)
                      (try clear hk)
                      (try clear hi)
                      refine hK.out _ _ ⟨(blk_cell BK533.out 0).trans rfl, (blk_cell BK533.out 1).trans rfl, (blk_cell BK533.out 2).trans rfl, (blk_cell BK504.out 0).trans rfl, (blk_cell BK504.out 1).trans rfl, (blk_cell BK504.out 2).trans rfl⟩ (fun hHeld => ?_)
                      clear hK K
                      refine norm_ (a' := ?_) ?_ ?_
                      rotate_left
                      · show Act.put _ (some 96) _ = _
                        simp only [Act.put, List.setIfInBounds_toArray, List.set_cons_zero, List.set_cons_succ, i64_w, i32_w]
                        rfl
                      refine pure_ (i := 16) (N := some 97) (v := ?_) (a' := ?_) #[true, true, true, true, true, true, true, true, true, true, true, true, true, true, true, true, true, false] rfl rfl (any_of HT_.out (by kernel_rfl)) (fun _ _ _ h => h) (Or.inl ⟨by rfl, ?_⟩) ?_ ?_
                      rotate_left
                      · intro w'
                        go_simp
                        with_reducible rfl
                      rotate_left
                      · simp only [Act.put, List.setIfInBounds_toArray, List.set_cons_zero, List.set_cons_succ, i64_w, i32_w]
                        rfl
                      refine pure_ (i := 17) (N := some 98) (v := ?_) (a' := ?_) #[true, true, true, true, true, true, true, true, true, true, true, true, true, true, true, true, true, true] rfl rfl (any_of HT_.out (by kernel_rfl)) (fun _ _ _ h => h) (Or.inl ⟨by rfl, ?_⟩) ?_ ?_
                      rotate_left
                      · intro w'
                        go_simp
                        with_reducible rfl
                      rotate_left
                      · simp only [Act.put, List.setIfInBounds_toArray, List.set_cons_zero, List.set_cons_succ, i64_w, i32_w]
                        rfl
                      refine done_ (done_of HT_.out (by kernel_rfl)) ?_
                      try go_wp2
                      go_meet
                      case rel => exact ⟨_, ((t538 != t539)), (by first | rfl | (simp; done) | (simp [*]; done)), H', ⟨by have := HJ4.out; have := HK2.out; first | omega | exact Nat.le_refl _⟩, ⟨by (with_reducible repeat (first | apply Kd.R_alloc | apply Kd.R_drewN | apply Kd.R_drew)); exact Kd.R_mono HO_6.out (fun _ hk => trivial)⟩, ⟨by (with_reducible repeat (first | apply Kd.V_alloc | apply Kd.V_drewN | apply Kd.V_drew)); exact Kd.V_mono HO531.out (fun _ hk => ⟨hk.1.1.1, ⟨hk.1.1.2.2, hk.1.2⟩⟩)⟩, ⟨by (with_reducible repeat (first | refine blk_drewN ?_ _ | refine blk_drew ?_ | refine blk_alloc ?_ _)); exact BK504.out⟩, ⟨by (with_reducible repeat (first | refine blk_drewN ?_ _ | refine blk_drew ?_ | refine blk_alloc ?_ _)); exact BK533.out⟩, ⟨bel_⟩⟩
                    · rw [if_neg c61] at H
                      have c61b0 : ((t534.length : Int) == 0) = false := beq_eq_false_iff_ne.mpr c61
                      have c61b1 : ((t534.length : Int) != 0) = true := bne_iff_ne.mpr c61
                      have c61b2 : ¬ (t534 = []) := fun h_ => c61 (by rw [h_]; rfl)
                      have H' := Aside0.mk H
                      clear H
                      try go_wp2
                      have n0_ := Aside0.mk (Kd.R_drew HO_6.out)
                      have n1_ := Aside0.mk (Kd.R_drew HO_8.out)
                      have n2_ := Aside0.mk (Kd.V_drew HO531.out)
                      have n3_ := Aside0.mk (Kd.R_drew HO536.out)
                      have n4_ := Aside0.mk (blk_drew BK504.out)
                      have n5_ := Aside0.mk (blk_drew BK533.out)
                      have n6_ := Aside0.mk (below_drew1 HB.out)
                      clear HO_6
                      clear HO_8
                      clear HO531
                      clear HO536
                      clear BK504
                      clear BK533
                      clear HB
                      have HO_6 := n0_
                      have HO_8 := n1_
                      have HO531 := n2_
                      have HO536 := n3_
                      have BK504 := n4_
                      have BK533 := n5_
                      have HB := n6_
                      clear n0_ n1_ n2_ n3_ n4_ n5_ n6_
                      obtain ⟨Ao69, co69, eo69⟩ := Kd.R_slice HO536.out
                      (first | subst eo69 | (injection eo69 with f1_ f2_ f3_; have f4_ := f1_.symm; have f5_ := f3_.symm; clear f1_ f2_ f3_; subst f4_; subst f5_))
                      refine start_ (n := 18) (S := fun w' => True) (ds := []) #[false, false, false, false, false, false, false, false, false, false, false, false, false, false, false, false, false, false] (by kernel_rfl) rfl rfl trivial (fun hHeld => ?_); refine with_tabW sequentlaw01_TypesVars.tab14 sequentlaw01_TypesVars.bits14 (fun HT_ HW_ => ?_)
                      generalize w58.drew = w68 at HO_6 HO_8 HO531 HO536 BK504 BK533 HB hHeld ⊢
                      refine pure_ (i := 0) (N := some 81) (v := ?_) (a' := ?_) #[true, false, false, false, false, false, false, false, false, false, false, false, false, false, false, false, false, false] rfl rfl (any_of HT_.out (by kernel_rfl)) (fun _ _ _ h => h) (Or.inl ⟨by rfl, ?_⟩) ?_ ?_
                      rotate_left
                      · intro w'
                        go_simp
                        with_reducible rfl
                      rotate_left
                      · simp only [Act.put, List.setIfInBounds_toArray, List.set_cons_zero, List.set_cons_succ, i64_w, i32_w]
                        rfl
                      refine pure_ (i := 1) (N := some 82) (v := ?_) (a' := ?_) #[true, true, false, false, false, false, false, false, false, false, false, false, false, false, false, false, false, false] rfl rfl (any_of HT_.out (by kernel_rfl)) (fun _ _ _ h => h) (Or.inl ⟨by rfl, ?_⟩) ?_ ?_
                      rotate_left
                      · intro w'
                        go_simp
                        with_reducible rfl
                      rotate_left
                      · simp only [Act.put, List.setIfInBounds_toArray, List.set_cons_zero, List.set_cons_succ, i64_w, i32_w]
                        rfl
                      refine pure_ (i := 2) (N := some 83) (v := ?_) (a' := ?_) #[true, true, true, false, false, false, false, false, false, false, false, false, false, false, false, false, false, false] rfl rfl (any_of HT_.out (by kernel_rfl)) (fun _ _ _ h => h) (Or.inl ⟨by rfl, ?_⟩) ?_ ?_
                      rotate_left
                      · intro w'
                        go_simp
                        with_reducible rfl
                      rotate_left
                      · simp only [Act.put, List.setIfInBounds_toArray, List.set_cons_zero, List.set_cons_succ, i64_w, i32_w]
                        rfl
                      refine pure_ (i := 3) (N := some 84) (v := ?_) (a' := ?_) #[true, true, true, true, false, false, false, false, false, false, false, false, false, false, false, false, false, false] rfl rfl (any_of HT_.out (by kernel_rfl)) (fun _ _ _ h => h) (Or.inl ⟨by rfl, ?_⟩) ?_ ?_
                      rotate_left
                      · intro w'
                        go_simp
                        with_reducible rfl
                      rotate_left
                      · simp only [Act.put, List.setIfInBounds_toArray, List.set_cons_zero, List.set_cons_succ, i64_w, i32_w]
                        rfl
                      refine pure_ (i := 4) (N := some 85) (v := ?_) (a' := ?_) #[true, true, true, true, true, false, false, false, false, false, false, false, false, false, false, false, false, false] rfl rfl (any_of HT_.out (by kernel_rfl)) (fun _ _ _ h => h) (Or.inl ⟨by rfl, ?_⟩) ?_ ?_
                      rotate_left
                      · intro w'
                        go_simp
                        with_reducible rfl
                      rotate_left
                      · simp only [Act.put, List.setIfInBounds_toArray, List.set_cons_zero, List.set_cons_succ, i64_w, i32_w]
                        rfl
                      refine pure_ (i := 5) (N := some 86) (v := ?_) (a' := ?_) #[true, true, true, true, true, true, false, false, false, false, false, false, false, false, false, false, false, false] rfl rfl (any_of HT_.out (by kernel_rfl)) (fun _ _ _ h => h) (Or.inl ⟨by rfl, ?_⟩) ?_ ?_
                      rotate_left
                      · intro w'
                        go_simp
                        with_reducible rfl
                      rotate_left
                      · simp only [Act.put, List.setIfInBounds_toArray, List.set_cons_zero, List.set_cons_succ, i64_w, i32_w]
                        rfl
                      refine pure_ (i := 6) (N := some 87) (v := ?_) (a' := ?_) #[true, true, true, true, true, true, true, false, false, false, false, false, false, false, false, false, false, false] rfl rfl (any_of HT_.out (by kernel_rfl)) (fun _ _ _ h => h) (Or.inl ⟨by rfl, ?_⟩) ?_ ?_
                      rotate_left
                      · intro w'
                        go_simp
                        with_reducible rfl
                      rotate_left
                      · simp only [Act.put, List.setIfInBounds_toArray, List.set_cons_zero, List.set_cons_succ, i64_w, i32_w]
                        rfl
                      refine pure_ (i := 7) (N := some 88) (v := ?_) (a' := ?_) #[true, true, true, true, true, true, true, true, false, false, false, false, false, false, false, false, false, false] rfl rfl (any_of HT_.out (by kernel_rfl)) (fun _ _ _ h => h) (Or.inl ⟨by rfl, ?_⟩) ?_ ?_
                      rotate_left
                      · intro w'
                        go_simp
                        with_reducible rfl
                      rotate_left
                      · simp only [Act.put, List.setIfInBounds_toArray, List.set_cons_zero, List.set_cons_succ, i64_w, i32_w]
                        rfl
                      refine pure_ (i := 8) (N := some 89) (v := ?_) (a' := ?_) #[true, true, true, true, true, true, true, true, true, false, false, false, false, false, false, false, false, false] rfl rfl (any_of HT_.out (by kernel_rfl)) (fun _ _ _ h => h) (Or.inl ⟨by rfl, ?_⟩) ?_ ?_
                      rotate_left
                      · intro w'
                        go_simp
                        with_reducible rfl
                      rotate_left
                      · simp only [Act.put, List.setIfInBounds_toArray, List.set_cons_zero, List.set_cons_succ, i64_w, i32_w]
                        rfl
                      refine pure_ (i := 9) (N := some 90) (v := ?_) (a' := ?_) #[true, true, true, true, true, true, true, true, true, true, false, false, false, false, false, false, false, false] rfl rfl (any_of HT_.out (by kernel_rfl)) (fun _ _ _ h => h) (Or.inl ⟨by rfl, ?_⟩) ?_ ?_
                      rotate_left
                      · intro w'
                        go_simp
                        with_reducible rfl
                      rotate_left
                      · simp only [Act.put, List.setIfInBounds_toArray, List.set_cons_zero, List.set_cons_succ, i64_w, i32_w]
                        rfl
                      refine pure_ (i := 10) (N := some 91) (v := ?_) (a' := ?_) #[true, true, true, true, true, true, true, true, true, true, true, false, false, false, false, false, false, false] rfl rfl (any_of HT_.out (by kernel_rfl)) (fun _ _ _ h => h) (Or.inl ⟨by rfl, ?_⟩) ?_ ?_
                      rotate_left
                      · intro w'
                        go_simp
                        with_reducible rfl
                      rotate_left
                      · simp only [Act.put, List.setIfInBounds_toArray, List.set_cons_zero, List.set_cons_succ, i64_w, i32_w]
                        rfl
                      refine pure_ (i := 11) (N := some 92) (v := ?_) (a' := ?_) #[true, true, true, true, true, true, true, true, true, true, true, true, false, false, false, false, false, false] rfl rfl (any_of HT_.out (by kernel_rfl)) (fun _ _ _ h => h) (Or.inl ⟨by rfl, ?_⟩) ?_ ?_
                      rotate_left
                      · intro w'
                        go_simp
                        with_reducible rfl
                      rotate_left
                      · simp only [Act.put, List.setIfInBounds_toArray, List.set_cons_zero, List.set_cons_succ, i64_w, i32_w]
                        rfl
                      refine pure_ (i := 12) (N := some 93) (v := undef) (a' := ?_) #[true, true, true, true, true, true, true, true, true, true, true, true, true, false, false, false, false, false] rfl rfl (any_of HT_.out (by kernel_rfl)) (fun _ _ _ h => h) (Or.inr ⟨by rfl, rfl⟩) ?_ ?_
                      rotate_left
                      · simp only [Act.put, List.setIfInBounds_toArray, List.set_cons_zero, List.set_cons_succ, i64_w, i32_w]
                        rfl
                      refine pure_ (i := 13) (N := some 94) (v := undef) (a' := ?_) #[true, true, true, true, true, true, true, true, true, true, true, true, true, true, false, false, false, false] rfl rfl (any_of HT_.out (by kernel_rfl)) (fun _ _ _ h => h) (Or.inr ⟨by rfl, rfl⟩) ?_ ?_
                      rotate_left
                      · simp only [Act.put, List.setIfInBounds_toArray, List.set_cons_zero, List.set_cons_succ, i64_w, i32_w]
                        rfl
                      refine pure_ (i := 14) (N := some 95) (v := undef) (a' := ?_) #[true, true, true, true, true, true, true, true, true, true, true, true, true, true, true, false, false, false] rfl rfl (any_of HT_.out (by kernel_rfl)) (fun _ _ _ h => h) (Or.inr ⟨by rfl, rfl⟩) ?_ ?_
                      rotate_left
                      · simp only [Act.put, List.setIfInBounds_toArray, List.set_cons_zero, List.set_cons_succ, i64_w, i32_w]
                        rfl
                      refine pure_ (i := 15) (N := some 96) (v := undef) (a' := ?_) #[true, true, true, true, true, true, true, true, true, true, true, true, true, true, true, true, false, false] rfl rfl (any_of HT_.out (by kernel_rfl)) (fun _ _ _ h => h) (Or.inr ⟨by rfl, rfl⟩) ?_ ?_
                      rotate_left
                      · simp only [Act.put, List.setIfInBounds_toArray, List.set_cons_zero, List.set_cons_succ, i64_w, i32_w]
                        rfl
                      refine pure_ (i := 16) (N := some 97) (v := undef) (a' := ?_) #[true, true, true, true, true, true, true, true, true, true, true, true, true, true, true, true, true, false] rfl rfl (any_of HT_.out (by kernel_rfl)) (fun _ _ _ h => h) (Or.inr ⟨by rfl, rfl⟩) ?_ ?_
                      rotate_left
                      · simp only [Act.put, List.setIfInBounds_toArray, List.set_cons_zero, List.set_cons_succ, i64_w, i32_w]
                        rfl
                      refine pure_ (i := 17) (N := some 98) (v := ?_) (a' := ?_) #[true, true, true, true, true, true, true, true, true, true, true, true, true, true, true, true, true, true] rfl rfl (any_of HT_.out (by kernel_rfl)) (fun _ _ _ h => h) (Or.inl ⟨by rfl, ?_⟩) ?_ ?_
                      rotate_left
                      · intro w'
                        go_simp
                        with_reducible rfl
                      rotate_left
                      · simp only [Act.put, List.setIfInBounds_toArray, List.set_cons_zero, List.set_cons_succ, i64_w, i32_w]
                        rfl
                      refine done_ (done_of HT_.out (by kernel_rfl)) ?_
                      try go_wp2
                      go_meet
                      case rel => exact ⟨_, (true), (by first | rfl | (simp; done) | (simp [*]; done)), H', ⟨by have := HJ4.out; have := HK2.out; first | omega | exact Nat.le_refl _⟩, ⟨by (with_reducible repeat (first | apply Kd.R_alloc | apply Kd.R_drewN | apply Kd.R_drew)); exact Kd.R_mono HO_6.out (fun _ hk => trivial)⟩, ⟨by (with_reducible repeat (first | apply Kd.V_alloc | apply Kd.V_drewN | apply Kd.V_drew)); exact Kd.V_mono HO531.out (fun _ hk => ⟨hk.1.1.1, ⟨hk.1.1.2.2, hk.1.2⟩⟩)⟩, ⟨by (with_reducible repeat (first | refine blk_drewN ?_ _ | refine blk_drew ?_ | refine blk_alloc ?_ _)); exact BK504.out⟩, ⟨by (with_reducible repeat (first | refine blk_drewN ?_ _ | refine blk_drew ?_ | refine blk_alloc ?_ _)); exact BK533.out⟩, ⟨bel_⟩⟩
                  · rw [if_neg c60] at H
                    have c60b0 : (t537 == 0) = false := beq_eq_false_iff_ne.mpr c60
                    have c60b1 : (t537 != 0) = true := bne_iff_ne.mpr c60
                    have H' := Aside0.mk H
                    clear H
                    try go_wp2
                    have n0_ := Aside0.mk (Kd.R_drew HO_6.out)
                    have n1_ := Aside0.mk (Kd.R_drew HO_8.out)
                    have n2_ := Aside0.mk (Kd.V_drew HO531.out)
                    have n3_ := Aside0.mk (Kd.R_drew HO536.out)
                    have n4_ := Aside0.mk (blk_drew BK504.out)
                    have n5_ := Aside0.mk (blk_drew BK533.out)
                    have n6_ := Aside0.mk (below_drew1 HB.out)
                    clear HO_6
                    clear HO_8
                    clear HO531
                    clear HO536
                    clear BK504
                    clear BK533
                    clear HB
                    have HO_6 := n0_
                    have HO_8 := n1_
                    have HO531 := n2_
                    have HO536 := n3_
                    have BK504 := n4_
                    have BK533 := n5_
                    have HB := n6_
                    clear n0_ n1_ n2_ n3_ n4_ n5_ n6_
                    refine start_ (n := 18) (S := fun w' => True) (ds := []) #[false, false, false, false, false, false, false, false, false, false, false, false, false, false, false, false, false, false] (by kernel_rfl) rfl rfl trivial (fun hHeld => ?_); refine with_tabW sequentlaw01_TypesVars.tab14 sequentlaw01_TypesVars.bits14 (fun HT_ HW_ => ?_)
                    generalize w58.drew = w70 at HO_6 HO_8 HO531 HO536 BK504 BK533 HB hHeld ⊢
                    refine pure_ (i := 0) (N := some 81) (v := ?_) (a' := ?_) #[true, false, false, false, false, false, false, false, false, false, false, false, false, false, false, false, false, false] rfl rfl (any_of HT_.out (by kernel_rfl)) (fun _ _ _ h => h) (Or.inl ⟨by rfl, ?_⟩) ?_ ?_
                    rotate_left
                    · intro w'
                      go_simp
                      with_reducible rfl
                    rotate_left
                    · simp only [Act.put, List.setIfInBounds_toArray, List.set_cons_zero, List.set_cons_succ, i64_w, i32_w]
                      rfl
                    refine pure_ (i := 1) (N := some 82) (v := ?_) (a' := ?_) #[true, true, false, false, false, false, false, false, false, false, false, false, false, false, false, false, false, false] rfl rfl (any_of HT_.out (by kernel_rfl)) (fun _ _ _ h => h) (Or.inl ⟨by rfl, ?_⟩) ?_ ?_
                    rotate_left
                    · intro w'
                      go_simp
                      with_reducible rfl
                    rotate_left
                    · simp only [Act.put, List.setIfInBounds_toArray, List.set_cons_zero, List.set_cons_succ, i64_w, i32_w]
                      rfl
                    refine pure_ (i := 2) (N := some 83) (v := ?_) (a' := ?_) #[true, true, true, false, false, false, false, false, false, false, false, false, false, false, false, false, false, false] rfl rfl (any_of HT_.out (by kernel_rfl)) (fun _ _ _ h => h) (Or.inl ⟨by rfl, ?_⟩) ?_ ?_
                    rotate_left
                    · intro w'
                      go_simp
                      with_reducible rfl
                    rotate_left
                    · simp only [Act.put, List.setIfInBounds_toArray, List.set_cons_zero, List.set_cons_succ, i64_w, i32_w]
                      rfl
                    refine pure_ (i := 3) (N := some 84) (v := ?_) (a' := ?_) #[true, true, true, true, false, false, false, false, false, false, false, false, false, false, false, false, false, false] rfl rfl (any_of HT_.out (by kernel_rfl)) (fun _ _ _ h => h) (Or.inl ⟨by rfl, ?_⟩) ?_ ?_
                    rotate_left
                    · intro w'
                      go_simp
                      with_reducible rfl
                    rotate_left
                    · simp only [Act.put, List.setIfInBounds_toArray, List.set_cons_zero, List.set_cons_succ, i64_w, i32_w]
                      rfl
                    refine pure_ (i := 4) (N := some 85) (v := ?_) (a' := ?_) #[true, true, true, true, true, false, false, false, false, false, false, false, false, false, false, false, false, false] rfl rfl (any_of HT_.out (by kernel_rfl)) (fun _ _ _ h => h) (Or.inl ⟨by rfl, ?_⟩) ?_ ?_
                    rotate_left
                    · intro w'
                      go_simp
                      with_reducible rfl
                    rotate_left
                    · simp only [Act.put, List.setIfInBounds_toArray, List.set_cons_zero, List.set_cons_succ, i64_w, i32_w]
                      rfl
                    refine pure_ (i := 5) (N := some 86) (v := ?_) (a' := ?_) #[true, true, true, true, true, true, false, false, false, false, false, false, false, false, false, false, false, false] rfl rfl (any_of HT_.out (by kernel_rfl)) (fun _ _ _ h => h) (Or.inl ⟨by rfl, ?_⟩) ?_ ?_
                    rotate_left
                    · intro w'
                      go_simp
                      with_reducible rfl
                    rotate_left
                    · simp only [Act.put, List.setIfInBounds_toArray, List.set_cons_zero, List.set_cons_succ, i64_w, i32_w]
                      rfl
                    refine pure_ (i := 6) (N := some 87) (v := ?_) (a' := ?_) #[true, true, true, true, true, true, true, false, false, false, false, false, false, false, false, false, false, false] rfl rfl (any_of HT_.out (by kernel_rfl)) (fun _ _ _ h => h) (Or.inl ⟨by rfl, ?_⟩) ?_ ?_
                    rotate_left
                    · intro w'
                      go_simp
                      with_reducible rfl
                    rotate_left
                    · simp only [Act.put, List.setIfInBounds_toArray, List.set_cons_zero, List.set_cons_succ, i64_w, i32_w]
                      rfl
                    refine pure_ (i := 7) (N := some 88) (v := undef) (a' := ?_) #[true, true, true, true, true, true, true, true, false, false, false, false, false, false, false, false, false, false] rfl rfl (any_of HT_.out (by kernel_rfl)) (fun _ _ _ h => h) (Or.inr ⟨by rfl, rfl⟩) ?_ ?_
                    rotate_left
                    · simp only [Act.put, List.setIfInBounds_toArray, List.set_cons_zero, List.set_cons_succ, i64_w, i32_w]
                      rfl
                    refine pure_ (i := 8) (N := some 89) (v := undef) (a' := ?_) #[true, true, true, true, true, true, true, true, true, false, false, false, false, false, false, false, false, false] rfl rfl (any_of HT_.out (by kernel_rfl)) (fun _ _ _ h => h) (Or.inr ⟨by rfl, rfl⟩) ?_ ?_
                    rotate_left
                    · simp only [Act.put, List.setIfInBounds_toArray, List.set_cons_zero, List.set_cons_succ, i64_w, i32_w]
                      rfl
                    refine pure_ (i := 9) (N := some 90) (v := undef) (a' := ?_) #[true, true, true, true, true, true, true, true, true, true, false, false, false, false, false, false, false, false] rfl rfl (any_of HT_.out (by kernel_rfl)) (fun _ _ _ h => h) (Or.inr ⟨by rfl, rfl⟩) ?_ ?_
                    rotate_left
                    · simp only [Act.put, List.setIfInBounds_toArray, List.set_cons_zero, List.set_cons_succ, i64_w, i32_w]
                      rfl
                    refine pure_ (i := 10) (N := some 91) (v := ?_) (a' := ?_) #[true, true, true, true, true, true, true, true, true, true, true, false, false, false, false, false, false, false] rfl rfl (any_of HT_.out (by kernel_rfl)) (fun _ _ _ h => h) (Or.inl ⟨by rfl, ?_⟩) ?_ ?_
                    rotate_left
                    · intro w'
                      go_simp
                      with_reducible rfl
                    rotate_left
                    · simp only [Act.put, List.setIfInBounds_toArray, List.set_cons_zero, List.set_cons_succ, i64_w, i32_w]
                      rfl
                    refine pure_ (i := 11) (N := some 92) (v := ?_) (a' := ?_) #[true, true, true, true, true, true, true, true, true, true, true, true, false, false, false, false, false, false] rfl rfl (any_of HT_.out (by kernel_rfl)) (fun _ _ _ h => h) (Or.inl ⟨by rfl, ?_⟩) ?_ ?_
                    rotate_left
                    · intro w'
                      go_simp
                      with_reducible rfl
                    rotate_left
                    · simp only [Act.put, List.setIfInBounds_toArray, List.set_cons_zero, List.set_cons_succ, i64_w, i32_w]
                      rfl
                    refine pure_ (i := 12) (N := some 93) (v := undef) (a' := ?_) #[true, true, true, true, true, true, true, true, true, true, true, true, true, false, false, false, false, false] rfl rfl (any_of HT_.out (by kernel_rfl)) (fun _ _ _ h => h) (Or.inr ⟨by rfl, rfl⟩) ?_ ?_
                    rotate_left
                    · simp only [Act.put, List.setIfInBounds_toArray, List.set_cons_zero, List.set_cons_succ, i64_w, i32_w]
                      rfl
                    refine pure_ (i := 13) (N := some 94) (v := undef) (a' := ?_) #[true, true, true, true, true, true, true, true, true, true, true, true, true, true, false, false, false, false] rfl rfl (any_of HT_.out (by kernel_rfl)) (fun _ _ _ h => h) (Or.inr ⟨by rfl, rfl⟩) ?_ ?_
                    rotate_left
                    · simp only [Act.put, List.setIfInBounds_toArray, List.set_cons_zero, List.set_cons_succ, i64_w, i32_w]
                      rfl
                    refine pure_ (i := 14) (N := some 95) (v := undef) (a' := ?_) #[true, true, true, true, true, true, true, true, true, true, true, true, true, true, true, false, false, false] rfl rfl (any_of HT_.out (by kernel_rfl)) (fun _ _ _ h => h) (Or.inr ⟨by rfl, rfl⟩) ?_ ?_
                    rotate_left
                    · simp only [Act.put, List.setIfInBounds_toArray, List.set_cons_zero, List.set_cons_succ, i64_w, i32_w]
                      rfl
                    refine pure_ (i := 15) (N := some 96) (v := undef) (a' := ?_) #[true, true, true, true, true, true, true, true, true, true, true, true, true, true, true, true, false, false] rfl rfl (any_of HT_.out (by kernel_rfl)) (fun _ _ _ h => h) (Or.inr ⟨by rfl, rfl⟩) ?_ ?_
                    rotate_left
                    · simp only [Act.put, List.setIfInBounds_toArray, List.set_cons_zero, List.set_cons_succ, i64_w, i32_w]
                      rfl
                    refine pure_ (i := 16) (N := some 97) (v := undef) (a' := ?_) #[true, true, true, true, true, true, true, true, true, true, true, true, true, true, true, true, true, false] rfl rfl (any_of HT_.out (by kernel_rfl)) (fun _ _ _ h => h) (Or.inr ⟨by rfl, rfl⟩) ?_ ?_
                    rotate_left
                    · simp only [Act.put, List.setIfInBounds_toArray, List.set_cons_zero, List.set_cons_succ, i64_w, i32_w]
                      rfl
                    refine pure_ (i := 17) (N := some 98) (v := ?_) (a' := ?_) #[true, true, true, true, true, true, true, true, true, true, true, true, true, true, true, true, true, true] rfl rfl (any_of HT_.out (by kernel_rfl)) (fun _ _ _ h => h) (Or.inl ⟨by rfl, ?_⟩) ?_ ?_
                    rotate_left
                    · intro w'
                      go_simp
                      with_reducible rfl
                    rotate_left
                    · simp only [Act.put, List.setIfInBounds_toArray, List.set_cons_zero, List.set_cons_succ, i64_w, i32_w]
                      rfl
                    refine done_ (done_of HT_.out (by kernel_rfl)) ?_
                    try go_wp2
                    go_meet
                    case rel => exact ⟨_, (true), (by first | rfl | (simp; done) | (simp [*]; done)), H', ⟨by have := HJ4.out; have := HK2.out; first | omega | exact Nat.le_refl _⟩, ⟨by (with_reducible repeat (first | apply Kd.R_alloc | apply Kd.R_drewN | apply Kd.R_drew)); exact Kd.R_mono HO_6.out (fun _ hk => trivial)⟩, ⟨by (with_reducible repeat (first | apply Kd.V_alloc | apply Kd.V_drewN | apply Kd.V_drew)); exact Kd.V_mono HO531.out (fun _ hk => ⟨hk.1.1.1, ⟨hk.1.1.2.2, hk.1.2⟩⟩)⟩, ⟨by (with_reducible repeat (first | refine blk_drewN ?_ _ | refine blk_drew ?_ | refine blk_alloc ?_ _)); exact BK504.out⟩, ⟨by (with_reducible repeat (first | refine blk_drewN ?_ _ | refine blk_drew ?_ | refine blk_alloc ?_ _)); exact BK533.out⟩, ⟨bel_⟩⟩
                · rw [if_neg c59] at H
                  have c59b0 : (t532 == 0) = false := beq_eq_false_iff_ne.mpr c59
                  have c59b1 : (t532 != 0) = true := bne_iff_ne.mpr c59
                  (first | rw [c59b0] | (simp only [i64_w, i32_w]; rw [c59b0]) | skip)
                  have H' := Aside0.mk H
                  clear H
                  try go_wp2
                  have n0_ := Aside0.mk (Kd.R_drew HO_6.out)
                  have n1_ := Aside0.mk (Kd.R_drew HO_8.out)
                  have n2_ := Aside0.mk (Kd.V_drew HO531.out)
                  have n3_ := Aside0.mk (Kd.R_drew HO536.out)
                  have n4_ := Aside0.mk (blk_drew BK504.out)
                  have n5_ := Aside0.mk (blk_drew BK533.out)
                  have n6_ := Aside0.mk (below_drew1 HB.out)
                  clear HO_6
                  clear HO_8
                  clear HO531
                  clear HO536
                  clear BK504
                  clear BK533
                  clear HB
                  have HO_6 := n0_
                  have HO_8 := n1_
                  have HO531 := n2_
                  have HO536 := n3_
                  have BK504 := n4_
                  have BK533 := n5_
                  have HB := n6_
                  clear n0_ n1_ n2_ n3_ n4_ n5_ n6_
                  refine start_ (n := 18) (S := fun w' => True) (ds := []) #[false, false, false, false, false, false, false, false, false, false, false, false, false, false, false, false, false, false] (by kernel_rfl) rfl rfl trivial (fun hHeld => ?_); refine with_tabW sequentlaw01_TypesVars.tab14 sequentlaw01_TypesVars.bits14 (fun HT_ HW_ => ?_)
                  generalize w58.drew = w71 at HO_6 HO_8 HO531 HO536 BK504 BK533 HB hHeld ⊢
                  refine pure_ (i := 0) (N := some 81) (v := ?_) (a' := ?_) #[true, false, false, false, false, false, false, false, false, false, false, false, false, false, false, false, false, false] rfl rfl (any_of HT_.out (by kernel_rfl)) (fun _ _ _ h => h) (Or.inl ⟨by rfl, ?_⟩) ?_ ?_
                  rotate_left
                  · intro w'
                    go_simp
                    with_reducible rfl
                  rotate_left
                  · simp only [Act.put, List.setIfInBounds_toArray, List.set_cons_zero, List.set_cons_succ, i64_w, i32_w]
                    rfl
                  refine pure_ (i := 1) (N := some 82) (v := ?_) (a' := ?_) #[true, true, false, false, false, false, false, false, false, false, false, false, false, false, false, false, false, false] rfl rfl (any_of HT_.out (by kernel_rfl)) (fun _ _ _ h => h) (Or.inl ⟨by rfl, ?_⟩) ?_ ?_
                  rotate_left
                  · intro w'
                    go_simp
                    with_reducible rfl
                  rotate_left
                  · simp only [Act.put, List.setIfInBounds_toArray, List.set_cons_zero, List.set_cons_succ, i64_w, i32_w]
                    rfl
                  refine pure_ (i := 2) (N := some 83) (v := ?_) (a' := ?_) #[true, true, true, false, false, false, false, false, false, false, false, false, false, false, false, false, false, false] rfl rfl (any_of HT_.out (by kernel_rfl)) (fun _ _ _ h => h) (Or.inl ⟨by rfl, ?_⟩) ?_ ?_
                  rotate_left
                  · intro w'
                    go_simp
                    with_reducible rfl
                  rotate_left
                  · simp only [Act.put, List.setIfInBounds_toArray, List.set_cons_zero, List.set_cons_succ, i64_w, i32_w]
                    rfl
                  refine pure_ (i := 3) (N := some 84) (v := undef) (a' := ?_) #[true, true, true, true, false, false, false, false, false, false, false, false, false, false, false, false, false, false] rfl rfl (any_of HT_.out (by kernel_rfl)) (fun _ _ _ h => h) (Or.inr ⟨by rfl, rfl⟩) ?_ ?_
                  rotate_left
                  · simp only [Act.put, List.setIfInBounds_toArray, List.set_cons_zero, List.set_cons_succ, i64_w, i32_w]
                    rfl
                  refine pure_ (i := 4) (N := some 85) (v := undef) (a' := ?_) #[true, true, true, true, true, false, false, false, false, false, false, false, false, false, false, false, false, false] rfl rfl (any_of HT_.out (by kernel_rfl)) (fun _ _ _ h => h) (Or.inr ⟨by rfl, rfl⟩) ?_ ?_
                  rotate_left
                  · simp only [Act.put, List.setIfInBounds_toArray, List.set_cons_zero, List.set_cons_succ, i64_w, i32_w]
                    rfl
                  refine pure_ (i := 5) (N := some 86) (v := ?_) (a' := ?_) #[true, true, true, true, true, true, false, false, false, false, false, false, false, false, false, false, false, false] rfl rfl (any_of HT_.out (by kernel_rfl)) (fun _ _ _ h => h) (Or.inl ⟨by rfl, ?_⟩) ?_ ?_
                  rotate_left
                  · intro w'
                    go_simp
                    with_reducible rfl
                  rotate_left
                  · simp only [Act.put, List.setIfInBounds_toArray, List.set_cons_zero, List.set_cons_succ, i64_w, i32_w]
                    rfl
                  refine pure_ (i := 6) (N := some 87) (v := ?_) (a' := ?_) #[true, true, true, true, true, true, true, false, false, false, false, false, false, false, false, false, false, false] rfl rfl (any_of HT_.out (by kernel_rfl)) (fun _ _ _ h => h) (Or.inl ⟨by rfl, ?_⟩) ?_ ?_
                  rotate_left
                  · intro w'
                    go_simp
                    with_reducible rfl
                  rotate_left
                  · simp only [Act.put, List.setIfInBounds_toArray, List.set_cons_zero, List.set_cons_succ, i64_w, i32_w]
                    rfl
                  refine pure_ (i := 7) (N := some 88) (v := undef) (a' := ?_) #[true, true, true, true, true, true, true, true, false, false, false, false, false, false, false, false, false, false] rfl rfl (any_of HT_.out (by kernel_rfl)) (fun _ _ _ h => h) (Or.inr ⟨by rfl, rfl⟩) ?_ ?_
                  rotate_left
                  · simp only [Act.put, List.setIfInBounds_toArray, List.set_cons_zero, List.set_cons_succ, i64_w, i32_w]
                    rfl
                  refine pure_ (i := 8) (N := some 89) (v := undef) (a' := ?_) #[true, true, true, true, true, true, true, true, true, false, false, false, false, false, false, false, false, false] rfl rfl (any_of HT_.out (by kernel_rfl)) (fun _ _ _ h => h) (Or.inr ⟨by rfl, rfl⟩) ?_ ?_
                  rotate_left
                  · simp only [Act.put, List.setIfInBounds_toArray, List.set_cons_zero, List.set_cons_succ, i64_w, i32_w]
                    rfl
                  refine pure_ (i := 9) (N := some 90) (v := undef) (a' := ?_) #[true, true, true, true, true, true, true, true, true, true, false, false, false, false, false, false, false, false] rfl rfl (any_of HT_.out (by kernel_rfl)) (fun _ _ _ h => h) (Or.inr ⟨by rfl, rfl⟩) ?_ ?_
                  rotate_left
                  · simp only [Act.put, List.setIfInBounds_toArray, List.set_cons_zero, List.set_cons_succ, i64_w, i32_w]
                    rfl
                  refine pure_ (i := 10) (N := some 91) (v := ?_) (a' := ?_) #[true, true, true, true, true, true, true, true, true, true, true, false, false, false, false, false, false, false] rfl rfl (any_of HT_.out (by kernel_rfl)) (fun _ _ _ h => h) (Or.inl ⟨by rfl, ?_⟩) ?_ ?_
                  rotate_left
                  · intro w'
                    go_simp
                    with_reducible rfl
                  rotate_left
                  · simp only [Act.put, List.setIfInBounds_toArray, List.set_cons_zero, List.set_cons_succ, i64_w, i32_w]
                    rfl
                  refine pure_ (i := 11) (N := some 92) (v := ?_) (a' := ?_) #[true, true, true, true, true, true, true, true, true, true, true, true, false, false, false, false, false, false] rfl rfl (any_of HT_.out (by kernel_rfl)) (fun _ _ _ h => h) (Or.inl ⟨by rfl, ?_⟩) ?_ ?_
                  rotate_left
                  · intro w'
                    go_simp
                    with_reducible rfl
                  rotate_left
                  · simp only [Act.put, List.setIfInBounds_toArray, List.set_cons_zero, List.set_cons_succ, i64_w, i32_w]
                    rfl
                  refine pure_ (i := 12) (N := some 93) (v := undef) (a' := ?_) #[true, true, true, true, true, true, true, true, true, true, true, true, true, false, false, false, false, false] rfl rfl (any_of HT_.out (by kernel_rfl)) (fun _ _ _ h => h) (Or.inr ⟨by rfl, rfl⟩) ?_ ?_
                  rotate_left
                  · simp only [Act.put, List.setIfInBounds_toArray, List.set_cons_zero, List.set_cons_succ, i64_w, i32_w]
                    rfl
                  refine pure_ (i := 13) (N := some 94) (v := undef) (a' := ?_) #[true, true, true, true, true, true, true, true, true, true, true, true, true, true, false, false, false, false] rfl rfl (any_of HT_.out (by kernel_rfl)) (fun _ _ _ h => h) (Or.inr ⟨by rfl, rfl⟩) ?_ ?_
                  rotate_left
                  · simp only [Act.put, List.setIfInBounds_toArray, List.set_cons_zero, List.set_cons_succ, i64_w, i32_w]
                    rfl
                  refine pure_ (i := 14) (N := some 95) (v := undef) (a' := ?_) #[true, true, true, true, true, true, true, true, true, true, true, true, true, true, true, false, false, false] rfl rfl (any_of HT_.out (by kernel_rfl)) (fun _ _ _ h => h) (Or.inr ⟨by rfl, rfl⟩) ?_ ?_
                  rotate_left
                  · simp only [Act.put, List.setIfInBounds_toArray, List.set_cons_zero, List.set_cons_succ, i64_w, i32_w]
                    rfl
                  refine pure_ (i := 15) (N := some 96) (v := undef) (a' := ?_) #[true, true, true, true, true, true, true, true, true, true, true, true, true, true, true, true, false, false] rfl rfl (any_of HT_.out (by kernel_rfl)) (fun _ _ _ h => h) (Or.inr ⟨by rfl, rfl⟩) ?_ ?_
                  rotate_left
                  · simp only [Act.put, List.setIfInBounds_toArray, List.set_cons_zero, List.set_cons_succ, i64_w, i32_w]
                    rfl
                  refine pure_ (i := 16) (N := some 97) (v := undef) (a' := ?_) #[true, true, true, true, true, true, true, true, true, true, true, true, true, true, true, true, true, false] rfl rfl (any_of HT_.out (by kernel_rfl)) (fun _ _ _ h => h) (Or.inr ⟨by rfl, rfl⟩) ?_ ?_
                  rotate_left
                  · simp only [Act.put, List.setIfInBounds_toArray, List.set_cons_zero, List.set_cons_succ, i64_w, i32_w]
                    rfl
                  refine pure_ (i := 17) (N := some 98) (v := ?_) (a' := ?_) #[true, true, true, true, true, true, true, true, true, true, true, true, true, true, true, true, true, true] rfl rfl (any_of HT_.out (by kernel_rfl)) (fun _ _ _ h => h) (Or.inl ⟨by rfl, ?_⟩) ?_ ?_
                  rotate_left
                  · intro w'
                    go_simp
                    with_reducible rfl
                  rotate_left
                  · simp only [Act.put, List.setIfInBounds_toArray, List.set_cons_zero, List.set_cons_succ, i64_w, i32_w]
                    rfl
                  refine done_ (done_of HT_.out (by kernel_rfl)) ?_
                  try go_wp2
                  go_meet
                  case rel => exact ⟨_, (true), (by first | rfl | (simp; done) | (simp [*]; done)), H', ⟨by have := HJ4.out; have := HK2.out; first | omega | exact Nat.le_refl _⟩, ⟨by (with_reducible repeat (first | apply Kd.R_alloc | apply Kd.R_drewN | apply Kd.R_drew)); exact Kd.R_mono HO_6.out (fun _ hk => trivial)⟩, ⟨by (with_reducible repeat (first | apply Kd.V_alloc | apply Kd.V_drewN | apply Kd.V_drew)); exact Kd.V_mono HO531.out (fun _ hk => ⟨hk.1.1.1, ⟨hk.1.1.2.2, hk.1.2⟩⟩)⟩, ⟨by (with_reducible repeat (first | refine blk_drewN ?_ _ | refine blk_drew ?_ | refine blk_alloc ?_ _)); exact BK504.out⟩, ⟨by (with_reducible repeat (first | refine blk_drewN ?_ _ | refine blk_drew ?_ | refine blk_alloc ?_ _)); exact BK533.out⟩, ⟨bel_⟩⟩
              case rest =>
                clear HC49
                try clear p2
                try clear c3
                try clear c5
                try clear c6
                try clear c30
                try clear c59
                try clear c59b0
                try clear c59b1
                try clear c60
                try clear c60b0
                try clear c60b1
                try clear c61
                try clear c61b0
                try clear c61b1
                try clear c61b2
                obtain ⟨kq, x98_48, rfl, HA, HJ48, HO_6, HO_534002, BK504, BK533, HB⟩ := hcut
                cases kq with
                | zero => exact absurd HA.out (by simp [sequentlaw01_TypesVars.j2])
                | succ kj48 =>
                  have H := HA.out
                  clear HA
                  simp only [sequentlaw01_TypesVars.j2] at H
                  by_cases c72 : x98_48 = true
                  · subst c72
                    have H1 : (some false) = some r := by rw [if_pos rfl] at H; exact H
                    clear H
                    have H := H1
                    clear H1
                    obtain rfl := Option.some.inj H
                    go_wp2
                    go_ret
                    exact ⟨by first | rfl | (simp [errW_none, errW_some] <;> rfl) | (simp [*, errW_none, errW_some] <;> rfl), bel_⟩
                  · replace c72 := Bool.eq_false_iff.mpr c72
                    subst c72
                    have H1 : (sequentlaw01_TypesVars.l1 kj48 l1 t505 t506 0 a0_0 a0_1 l0_2) = some r := by rw [if_neg (show ¬ (false = true) by decide)] at H; exact H
                    clear H
                    have H := H1
                    clear H1
                    have H' := Aside0.mk H
                    clear H
                    go_wp2
                    go_loopg [14] kj48 (fun kq v14 w' => ∃ (x14_4 : Int), v14 = .int .i64 x14_4 ∧ Aside0 (sequentlaw01_TypesVars.l1 kq l1 t505 t506 x14_4 a0_0 a0_1 l0_2 = some r) ∧ Aside0 (kq ≤ kj48) ∧ Aside0 (Kd.R Kd.string 9 w' w.heap.size (fun _ => True) (.slice Ao50 t506.length co50) t506) ∧ Aside0 (Kd.V k25 25 w' w.heap.size (fun k_ => some k_ ≠ ((.slice Ao50 t506.length co50) : Value).ownBlock ∧ k_ ≠ gb504 ∧ k_ ≠ gb533) (.slice Ao57 t529.length co57) t529) ∧ Aside0 (w'.heap[gb504]? = some (.cells #[.bool a0_0, .string a0_1, (.slice A0_2 l0_2.length c0_2)] 25 (0, 0))) ∧ Aside0 (w'.heap[gb533]? = some (.cells #[.bool t527, .string t528, (.slice Ao57 t529.length co57)] 25 (0, 0))) ∧ Aside0 (Below w.heap.size w w'))
                    case atStart => exact ⟨(0), (by first | rfl | (simp; done) | (simp [*]; done)), H', ⟨Nat.le_refl _⟩, ⟨by (with_reducible repeat (first | apply Kd.R_alloc | apply Kd.R_drewN | apply Kd.R_drew)); exact HO_6.out⟩, ⟨by (with_reducible repeat (first | apply Kd.V_alloc | apply Kd.V_drewN | apply Kd.V_drew)); exact HO_534002.out⟩, ⟨by (with_reducible repeat (first | refine blk_drewN ?_ _ | refine blk_drew ?_ | refine blk_alloc ?_ _)); exact BK504.out⟩, ⟨by (with_reducible repeat (first | refine blk_drewN ?_ _ | refine blk_drew ?_ | refine blk_alloc ?_ _)); exact BK533.out⟩, ⟨bel_⟩⟩
                    case round =>
                      clear H'
                      try clear p2
                      try clear c3
                      try clear c5
                      try clear c6
                      try clear c7
                      try clear c30
                      try clear c59
                      try clear c59b0
                      try clear c59b1
                      try clear c60
                      try clear c60b0
                      try clear c60b1
                      try clear c61
                      try clear c61b0
                      try clear c61b1
                      try clear c61b2
                      try clear c72
                      try clear p2
                      obtain ⟨x14_4, rfl, HA, HK4, HO_6, HO_534002, BK504, BK533, HB⟩ := hrel
                      cases gk with
                      | zero => exact absurd HA.out (by simp [sequentlaw01_TypesVars.l1])
                      | succ k4 =>
                        have H := HA.out
                        clear HA
                        simp only [sequentlaw01_TypesVars.l1] at H
                        by_cases c73 : x14_4 < (l1.length : Int)
                        · rw [if_pos c73] at H
                          have c73b0 : decide (x14_4 < (l1.length : Int)) = true := decide_eq_true c73
                          clear c73
                          by_cases c74 : 0 ≤ x14_4
                          · rw [if_pos c74] at H
                            have c74b0 : decide (0 ≤ x14_4) = true := decide_eq_true c74
                            clear c74
                            replace H := Option.bind_eq_some_iff.mp H
                            obtain ⟨t541, A750, H⟩ := H
                            replace H : (if t541 = true then (some t505) else (sequentlaw01_TypesVars.l1 k4 l1 t505 t506 (wrap64 (x14_4 + 1)) a0_0 a0_1 l0_2)) = some r := H
                            have A75 := Aside0.mk A750
                            clear A750
                            by_cases c76 : t541 = true
                            · subst c76
                              have H1 : (some t505) = some r := by rw [if_pos rfl] at H; exact H
                              clear H
                              have H := H1
                              clear H1
                              obtain rfl := Option.some.inj H
                              have p540 : 0 ≤ (x14_4 : Int) := of_decide_eq_true (by first | (with_reducible assumption) | assumption)
                              have q540 : x14_4 < (l1.length : Int) := of_decide_eq_true (by first | (with_reducible assumption) | assumption)
                              obtain ⟨ad540, A540_3, c540_3, e540, hx540_0, hx540_1, hx540_2, hx540_3, hl540_3, hi540_3⟩ := at_T59 HR1.out x14_4 p540 q540
                              cases e540
                              replace hx540_0 := (HB.out.cell (World.block_lt_of_cell? w _ hx540_0)).trans hx540_0
                              replace hx540_1 := (HB.out.cell (World.block_lt_of_cell? w _ hx540_1)).trans hx540_1
                              replace hx540_2 := (HB.out.cell (World.block_lt_of_cell? w _ hx540_2)).trans hx540_2
                              replace hx540_3 := (HB.out.cell (World.block_lt_of_cell? w _ hx540_3)).trans hx540_3
                              have HR540_3 := Aside0.mk hi540_3
                              have HC540_3 := Aside0.mk hl540_3
                              clear hi540_3 hl540_3
                              replace p540 := eq_true p540
                              replace q540 := eq_true q540
                              go_wp2_with (first | ((with_reducible refine gate_callee (f := 41) rfl ?_); refine goesL_ (some 111) rfl rfl Try.func41 (by kernel_rfl) rfl #[.slice Ao50 t506.length co50, .string ((rd_T59 l1 x14_4).f0)] rfl (by (try simp only [List.map_toArray, List.map_cons, List.map_nil]); first | done | rfl | (simp only [List.length_drop, List.length_take]; rfl)) ?_; (with_reducible refine (sequentref01_In.calls k4 _ _ t506 ((rd_T59 l1 x14_4).f0) true _ ?side1 ?side2 A75.out).mono ?_); (case side1 => repeat (first | exact (Kd.R_reads' HO_6.out).2.2 | (with_reducible refine Kd.C_alloc ?_ _) | (with_reducible refine Kd.C_drewN ?_ _) | (with_reducible refine Kd.C_drew ?_))); (case side2 => exact (Kd.R_reads' HO_6.out).2.1); rintro e w' ⟨rfl, ⟨nd, rfl⟩⟩; refine ⟨_, rfl, ?_⟩))
                              go_ret
                              exact ⟨by first | rfl | (simp [errW_none, errW_some] <;> rfl) | (simp [*, errW_none, errW_some] <;> rfl), bel_⟩
                            · replace c76 := Bool.eq_false_iff.mpr c76
                              subst c76
                              have H1 : (sequentlaw01_TypesVars.l1 k4 l1 t505 t506 (wrap64 (x14_4 + 1)) a0_0 a0_1 l0_2) = some r := by rw [if_neg (show ¬ (false = true) by decide)] at H; exact H
                              clear H
                              have H := H1
                              clear H1
                              have H' := Aside0.mk H
                              clear H
                              have p540 : 0 ≤ (x14_4 : Int) := of_decide_eq_true (by first | (with_reducible assumption) | assumption)
                              have q540 : x14_4 < (l1.length : Int) := of_decide_eq_true (by first | (with_reducible assumption) | assumption)
                              obtain ⟨ad540, A540_3, c540_3, e540, hx540_0, hx540_1, hx540_2, hx540_3, hl540_3, hi540_3⟩ := at_T59 HR1.out x14_4 p540 q540
                              cases e540
                              replace hx540_0 := (HB.out.cell (World.block_lt_of_cell? w _ hx540_0)).trans hx540_0
                              replace hx540_1 := (HB.out.cell (World.block_lt_of_cell? w _ hx540_1)).trans hx540_1
                              replace hx540_2 := (HB.out.cell (World.block_lt_of_cell? w _ hx540_2)).trans hx540_2
                              replace hx540_3 := (HB.out.cell (World.block_lt_of_cell? w _ hx540_3)).trans hx540_3
                              have HR540_3 := Aside0.mk hi540_3
                              have HC540_3 := Aside0.mk hl540_3
                              clear hi540_3 hl540_3
                              replace p540 := eq_true p540
                              replace q540 := eq_true q540
                              go_wp2_with (first | ((with_reducible refine gate_callee (f := 41) rfl ?_); refine goesL_ (some 111) rfl rfl Try.func41 (by kernel_rfl) rfl #[.slice Ao50 t506.length co50, .string ((rd_T59 l1 x14_4).f0)] rfl (by (try simp only [List.map_toArray, List.map_cons, List.map_nil]); first | done | rfl | (simp only [List.length_drop, List.length_take]; rfl)) ?_; (with_reducible refine (sequentref01_In.calls k4 _ _ t506 ((rd_T59 l1 x14_4).f0) false _ ?side1 ?side2 A75.out).mono ?_); (case side1 => repeat (first | exact (Kd.R_reads' HO_6.out).2.2 | (with_reducible refine Kd.C_alloc ?_ _) | (with_reducible refine Kd.C_drewN ?_ _) | (with_reducible refine Kd.C_drew ?_))); (case side2 => exact (Kd.R_reads' HO_6.out).2.1); rintro e w' ⟨rfl, ⟨nd, rfl⟩⟩; refine ⟨_, rfl, ?_⟩))
                              go_roundg k4
                              case measure => have := HJ4.out; have := HK2.out; have := HJ48.out; have := HK4.out; omega
                              case rel => exact ⟨(wrap64 (x14_4 + 1)), (by first | rfl | (simp; done) | (simp [*]; done)), H', ⟨by have := HJ4.out; have := HK2.out; have := HJ48.out; have := HK4.out; omega⟩, ⟨by (with_reducible repeat (first | apply Kd.R_alloc | apply Kd.R_drewN | apply Kd.R_drew)); exact HO_6.out⟩, ⟨by (with_reducible repeat (first | apply Kd.V_alloc | apply Kd.V_drewN | apply Kd.V_drew)); exact HO_534002.out⟩, ⟨by (with_reducible repeat (first | refine blk_drewN ?_ _ | refine blk_drew ?_ | refine blk_alloc ?_ _)); exact BK504.out⟩, ⟨by (with_reducible repeat (first | refine blk_drewN ?_ _ | refine blk_drew ?_ | refine blk_alloc ?_ _)); exact BK533.out⟩, ⟨bel_⟩⟩
                          · rw [if_neg c74] at H
                            exact absurd H (by simp)
                        · rw [if_neg c73] at H
                          have c73b0 : decide (x14_4 < (l1.length : Int)) = false := decide_eq_false c73
                          clear c73
                          replace H := Option.bind_eq_some_iff.mp H
                          obtain ⟨⟨t542, t543, t544, t547⟩, A770, H⟩ := H
                          replace H : (if t505 = true then (if t547 = 0 then ((types_Same.f t542 t543 t544 a0_0 a0_1 l0_2).bind fun t549 => (if t549 = true then (some true) else (some (t547 == 10)))) else (some (t547 == 10))) else (some false)) = some r := H
                          have A77 := Aside0.mk A770
                          clear A770
                          by_cases c78 : t505 = true
                          · subst c78
                            have H1 : (if t547 = 0 then ((types_Same.f t542 t543 t544 a0_0 a0_1 l0_2).bind fun t549 => (if t549 = true then (some true) else (some (t547 == 10)))) else (some (t547 == 10))) = some r := by rw [if_pos rfl] at H; exact H
                            clear H
                            have H := H1
                            clear H1
                            by_cases c79 : t547 = 0
                            · rw [if_pos c79] at H
                              have c79b0 : (t547 == 0) = true := beq_iff_eq.mpr c79
                              have c79b1 : (t547 != 0) = false := bne_eq_false_iff_eq.mpr c79
                              clear c79
                              replace H := Option.bind_eq_some_iff.mp H
                              obtain ⟨t549, A800, H⟩ := H
                              replace H : (if t549 = true then (some true) else (some (t547 == 10))) = some r := H
                              have A80 := Aside0.mk A800
                              clear A800
                              by_cases c81 : t549 = true
                              · subst c81
                                have H1 : (some true) = some r := by rw [if_pos rfl] at H; exact H
                                clear H
                                have H := H1
                                clear H1
                                obtain rfl := Option.some.inj H
                                have hnb82 := NB504_533.out
                                have hnc82 := NB533_504.out
                                have hcz83_0 : wr.cell? ⟨gb504, 0, none⟩ = some (.bool a0_0) := (blk_cell BK504.out 0).trans rfl
                                have hcz83_1 : wr.cell? ⟨gb504, 1, none⟩ = some (.string a0_1) := (blk_cell BK504.out 1).trans rfl
                                have hcz83_2 : wr.cell? ⟨gb504, 2, none⟩ = some (.slice A0_2 l0_2.length c0_2) := (blk_cell BK504.out 2).trans rfl
                                have hfz83_0 := blk_frozen BK504.out 0
                                have hfz83_1 := blk_frozen BK504.out 1
                                have hfz83_2 := blk_frozen BK504.out 2
                                go_wp2_with (first | ((with_reducible refine gate_callee (f := 16) rfl ?_); refine goesL_ (some 116) rfl rfl Try.func16 (by kernel_rfl) rfl #[.slice A1 l1.length c1, .agg #[.bool a0_0, .string a0_1, .slice A0_2 l0_2.length c0_2]] rfl (by (try simp only [List.map_toArray, List.map_cons, List.map_nil]); first | done | rfl | (simp only [List.length_drop, List.length_take]; rfl)) ?_; (with_reducible refine (types_Inst.calls k4 _ _ l1 a0_0 a0_1 _ _ l0_2 t542 t543 t544 t547 _ ?side1 ?side2 ?side3 ?side4 A77.out).mono ?_); (case side1 => repeat (first | exact (Kd.C_below HR1.out HB.out) | (with_reducible refine Kd.C_alloc ?_ _) | (with_reducible refine Kd.C_drewN ?_ _) | (with_reducible refine Kd.C_drew ?_))); (case side2 => exact HC1.out); (case side3 => repeat (first | exact (Kd.C_below HR0_2.out HB.out) | (with_reducible refine Kd.C_alloc ?_ _) | (with_reducible refine Kd.C_drewN ?_ _) | (with_reducible refine Kd.C_drew ?_))); (case side4 => exact HC0_2.out); rintro e w84 ⟨v545, rfl, ho0, hb⟩; refine ⟨_, rfl, ?_⟩; have n0_ := Aside0.mk (Kd.R_below (by (with_reducible repeat (first | apply Kd.R_alloc | apply Kd.R_drewN | apply Kd.R_drew)); exact HO_6.out) hb); have n1_ := Aside0.mk (Kd.V_below (by (with_reducible repeat (first | apply Kd.V_alloc | apply Kd.V_drewN | apply Kd.V_drew)); exact HO_534002.out) hb); have n2_ := Aside0.mk (Kd.V_lower (Kd.V_mono (ok' := fun k_ => some k_ ≠ (.slice Ao50 t506.length co50 : Value).ownBlock ∧ k_ ≠ gb504 ∧ k_ ≠ gb533) ho0 (fun k_ hk_ => ⟨(Kd.fresh' (Kd.R_lt (by (with_reducible repeat (first | apply Kd.R_alloc | apply Kd.R_drewN | apply Kd.R_drew)); exact HO_6.out)) k_ hk_), (Kd.freshB (g := gb504) (o := .cells #[.bool a0_0, .string a0_1, .slice A0_2 l0_2.length c0_2] 25 (0, 0)) (by (with_reducible repeat (first | refine blk_drewN ?_ _ | refine blk_drew ?_ | refine blk_alloc ?_ _)); exact BK504.out) k_ hk_), (Kd.freshB (g := gb533) (o := .cells #[.bool t527, .string t528, .slice Ao57 t529.length co57] 25 (0, 0)) (by (with_reducible repeat (first | refine blk_drewN ?_ _ | refine blk_drew ?_ | refine blk_alloc ?_ _)); exact BK533.out) k_ hk_)⟩)) (below_size bel_)); have n3_ := Aside0.mk (blk_below (g := gb504) (o := .cells #[.bool a0_0, .string a0_1, .slice A0_2 l0_2.length c0_2] 25 (0, 0)) (by (with_reducible repeat (first | refine blk_drewN ?_ _ | refine blk_drew ?_ | refine blk_alloc ?_ _)); exact BK504.out) hb); have n4_ := Aside0.mk (blk_below (g := gb533) (o := .cells #[.bool t527, .string t528, .slice Ao57 t529.length co57] 25 (0, 0)) (by (with_reducible repeat (first | refine blk_drewN ?_ _ | refine blk_drew ?_ | refine blk_alloc ?_ _)); exact BK533.out) hb); have n5_ := Aside0.mk (below_step bel_ hb); clear HO_6; clear HO_534002; clear BK504; clear BK533; clear HB; have HO_6 := n0_; have HO_534002 := n1_; have HO546 := n2_; have BK504 := n3_; have BK533 := n4_; have HB := n5_; clear n0_ n1_ n2_ n3_ n4_ n5_; (try clear hb); (try clear hb2); (try clear hk); (try clear hi); (try clear ho0)) | ((with_reducible refine gate_dst (N := 15) rfl ?_); (try (refine gate_guard (by rfl) ?_; dsimp only)); refine box_event ?hg (N := 15) ?hd (cs := #[.bool false, .string (⟨#[]⟩ : ByteArray), .slice none 0 0]) (t := 25) ?hr ?_; (case hd => rfl); (case hg => rfl); (case hr => first | (go_simp; done) | (go_simp; rfl)); intro gb548 hg w85 hbox hb; have n0_ := Aside0.mk (Kd.R_below (by (with_reducible repeat (first | apply Kd.R_alloc | apply Kd.R_drewN | apply Kd.R_drew)); exact HO_6.out) hb); have n1_ := Aside0.mk (Kd.V_below (Kd.V_elderB (by (with_reducible repeat (first | apply Kd.V_alloc | apply Kd.V_drewN | apply Kd.V_drew)); exact HO_534002.out) gb548 (Nat.le_of_eq hg.symm)) hb); have n2_ := Aside0.mk (Kd.V_below (Kd.V_elderB (by (with_reducible repeat (first | apply Kd.V_alloc | apply Kd.V_drewN | apply Kd.V_drew)); exact HO546.out) gb548 (Nat.le_of_eq hg.symm)) hb); have n3_ := Aside0.mk (blk_below (g := gb504) (o := .cells #[.bool a0_0, .string a0_1, .slice A0_2 l0_2.length c0_2] 25 (0, 0)) (by (with_reducible repeat (first | refine blk_drewN ?_ _ | refine blk_drew ?_ | refine blk_alloc ?_ _)); exact BK504.out) hb); have n4_ := Aside0.mk (blk_below (g := gb533) (o := .cells #[.bool t527, .string t528, .slice Ao57 t529.length co57] 25 (0, 0)) (by (with_reducible repeat (first | refine blk_drewN ?_ _ | refine blk_drew ?_ | refine blk_alloc ?_ _)); exact BK533.out) hb); have n5_ := Aside0.mk (below_step bel_ hb); have n6_ := Aside0.mk (hbox); have n7_ := Aside0.mk ((by rw [hg]; exact (below_size bel_) : w.heap.size ≤ gb548)); have n8_ := Aside0.mk ((by rw [hg]; exact (below_size bel_) : w.heap.size ≤ gb548)); have n9_ := Aside0.mk ((by rw [hg]; exact Nat.ne_of_lt (blk_lt (g := gb504) (o := .cells #[.bool a0_0, .string a0_1, .slice A0_2 l0_2.length c0_2] 25 (0, 0)) (by (with_reducible repeat (first | refine blk_drewN ?_ _ | refine blk_drew ?_ | refine blk_alloc ?_ _)); exact BK504.out)) : gb504 ≠ gb548)); have n10_ := Aside0.mk ((by rw [hg]; exact Nat.ne_of_gt (blk_lt (g := gb504) (o := .cells #[.bool a0_0, .string a0_1, .slice A0_2 l0_2.length c0_2] 25 (0, 0)) (by (with_reducible repeat (first | refine blk_drewN ?_ _ | refine blk_drew ?_ | refine blk_alloc ?_ _)); exact BK504.out)) : gb548 ≠ gb504)); have n11_ := Aside0.mk ((by rw [hg]; exact Nat.ne_of_lt (blk_lt (g := gb533) (o := .cells #[.bool t527, .string t528, .slice Ao57 t529.length co57] 25 (0, 0)) (by (with_reducible repeat (first | refine blk_drewN ?_ _ | refine blk_drew ?_ | refine blk_alloc ?_ _)); exact BK533.out)) : gb533 ≠ gb548)); have n12_ := Aside0.mk ((by rw [hg]; exact Nat.ne_of_gt (blk_lt (g := gb533) (o := .cells #[.bool t527, .string t528, .slice Ao57 t529.length co57] 25 (0, 0)) (by (with_reducible repeat (first | refine blk_drewN ?_ _ | refine blk_drew ?_ | refine blk_alloc ?_ _)); exact BK533.out)) : gb548 ≠ gb533)); clear HO_6; clear HO_534002; clear HO546; clear BK504; clear BK533; clear HB; have HO_6 := n0_; have HO_534002 := n1_; have HO546 := n2_; have BK504 := n3_; have BK533 := n4_; have HB := n5_; have BK548 := n6_; have GW548 := n7_; have GE548 := n8_; have NB504_548 := n9_; have NB548_504 := n10_; have NB533_548 := n11_; have NB548_533 := n12_; clear n0_ n1_ n2_ n3_ n4_ n5_ n6_ n7_ n8_ n9_ n10_ n11_ n12_; clear hb hbox hg; have hnb86 := NB548_504.out; have hnc86 := NB504_548.out; have hnb87 := NB548_533.out; have hnc87 := NB533_548.out; have hcz88_0 : w85.cell? ⟨gb548, 0, none⟩ = some (.bool false) := (blk_cell BK548.out 0).trans rfl; have hcz88_1 : w85.cell? ⟨gb548, 1, none⟩ = some (.string (⟨#[]⟩ : ByteArray)) := (blk_cell BK548.out 1).trans rfl; have hcz88_2 : w85.cell? ⟨gb548, 2, none⟩ = some (.slice none 0 0) := (blk_cell BK548.out 2).trans rfl; have hfz88_0 := blk_frozen BK548.out 0; have hfz88_1 := blk_frozen BK548.out 1; have hfz88_2 := blk_frozen BK548.out 2; obtain ⟨Ao89, co89, eo89⟩ := Kd.V_slice HO546.out; subst eo89; have hcz90_0 : w85.cell? ⟨gb504, 0, none⟩ = some (.bool a0_0) := (blk_cell BK504.out 0).trans rfl; have hcz90_1 : w85.cell? ⟨gb504, 1, none⟩ = some (.string a0_1) := (blk_cell BK504.out 1).trans rfl; have hcz90_2 : w85.cell? ⟨gb504, 2, none⟩ = some (.slice A0_2 l0_2.length c0_2) := (blk_cell BK504.out 2).trans rfl; have hfz90_0 := blk_frozen BK504.out 0; have hfz90_1 := blk_frozen BK504.out 1; have hfz90_2 := blk_frozen BK504.out 2) | (go_at_call 35; (with_reducible refine (types_Same.calls t542 t543 _ _ t544 a0_0 a0_1 _ _ l0_2 true _ ?side1 ?side2 ?side3 ?side4 A80.out).mono ?_); (case side1 => refine (Kd.V_reads' (e := 25) (base := w.heap.size) (ok := fun k_ => ((some k_ ≠ (.slice Ao50 t506.length co50 : Value).ownBlock ∧ (k_ ≠ gb504 ∧ k_ ≠ gb533)) ∧ k_ ≠ gb548)) (n := t544.length) (c := co89) ?_).2.2; exact (by (with_reducible repeat (first | apply Kd.V_alloc | apply Kd.V_drewN | apply Kd.V_drew)); exact (Kd.V_mono (Kd.V_far (p := ⟨gb548, 2, none⟩) (Kd.V_far (p := ⟨gb548, 1, none⟩) (Kd.V_far (p := ⟨gb548, 0, none⟩) (Kd.V_mono HO546.out (fun k_ hk => (⟨hk, hk.2⟩ : _ ∧ k_ ≠ gb548))) (fun _ hk => hk.2) (.bool t542)) (fun _ hk => hk.2) (.string t543)) (fun _ hk => hk.2) (.slice Ao89 t544.length co89)) (fun _ h_ => h_.1)))); (case side2 => exact (Kd.V_reads' HO546.out).2.1); (case side3 => exact Kd.C_below HR0_2.out bel_); (case side4 => exact HC0_2.out); rintro e w91 ⟨rfl, hb⟩; have n0_ := Aside0.mk (Kd.R_below (by (with_reducible repeat (first | apply Kd.R_alloc | apply Kd.R_drewN | apply Kd.R_drew)); exact (Kd.R_mono (Kd.R_far (p := ⟨gb548, 2, none⟩) (Kd.R_far (p := ⟨gb548, 1, none⟩) (Kd.R_far (p := ⟨gb548, 0, none⟩) (Kd.R_types HO_6.out BK548.out (by decide)) (fun _ hk => hk.2) (.bool t542)) (fun _ hk => hk.2) (.string t543)) (fun _ hk => hk.2) (.slice Ao89 t544.length co89)) (fun _ h_ => h_.1))) hb); have n1_ := Aside0.mk (Kd.V_below (by (with_reducible repeat (first | apply Kd.V_alloc | apply Kd.V_drewN | apply Kd.V_drew)); exact (Kd.V_mono (Kd.V_far (p := ⟨gb548, 2, none⟩) (Kd.V_far (p := ⟨gb548, 1, none⟩) (Kd.V_far (p := ⟨gb548, 0, none⟩) (Kd.V_mono HO_534002.out (fun k_ hk => (⟨hk, hk.2⟩ : _ ∧ k_ ≠ gb548))) (fun _ hk => hk.2) (.bool t542)) (fun _ hk => hk.2) (.string t543)) (fun _ hk => hk.2) (.slice Ao89 t544.length co89)) (fun _ h_ => h_.1))) hb); have n2_ := Aside0.mk (Kd.V_below (by (with_reducible repeat (first | apply Kd.V_alloc | apply Kd.V_drewN | apply Kd.V_drew)); exact (Kd.V_mono (Kd.V_far (p := ⟨gb548, 2, none⟩) (Kd.V_far (p := ⟨gb548, 1, none⟩) (Kd.V_far (p := ⟨gb548, 0, none⟩) (Kd.V_mono HO546.out (fun k_ hk => (⟨hk, hk.2⟩ : _ ∧ k_ ≠ gb548))) (fun _ hk => hk.2) (.bool t542)) (fun _ hk => hk.2) (.string t543)) (fun _ hk => hk.2) (.slice Ao89 t544.length co89)) (fun _ h_ => h_.1))) hb); have n3_ := Aside0.mk (blk_below (g := gb504) (o := .cells #[.bool a0_0, .string a0_1, .slice A0_2 l0_2.length c0_2] 25 (0, 0)) (by (with_reducible repeat (first | refine blk_drewN ?_ _ | refine blk_drew ?_ | refine blk_alloc ?_ _)); refine blk_far ?_ NB504_548.out _; (with_reducible repeat (first | refine blk_drewN ?_ _ | refine blk_drew ?_ | refine blk_alloc ?_ _)); refine blk_far ?_ NB504_548.out _; (with_reducible repeat (first | refine blk_drewN ?_ _ | refine blk_drew ?_ | refine blk_alloc ?_ _)); refine blk_far ?_ NB504_548.out _; (with_reducible repeat (first | refine blk_drewN ?_ _ | refine blk_drew ?_ | refine blk_alloc ?_ _)); exact BK504.out) hb); have n4_ := Aside0.mk (blk_below (g := gb533) (o := .cells #[.bool t527, .string t528, .slice Ao57 t529.length co57] 25 (0, 0)) (by (with_reducible repeat (first | refine blk_drewN ?_ _ | refine blk_drew ?_ | refine blk_alloc ?_ _)); refine blk_far ?_ NB533_548.out _; (with_reducible repeat (first | refine blk_drewN ?_ _ | refine blk_drew ?_ | refine blk_alloc ?_ _)); refine blk_far ?_ NB533_548.out _; (with_reducible repeat (first | refine blk_drewN ?_ _ | refine blk_drew ?_ | refine blk_alloc ?_ _)); refine blk_far ?_ NB533_548.out _; (with_reducible repeat (first | refine blk_drewN ?_ _ | refine blk_drew ?_ | refine blk_alloc ?_ _)); exact BK533.out) hb); have n5_ := Aside0.mk (blk_below (g := gb548) (o := .cells #[.bool t542, .string t543, .slice Ao89 t544.length co89] 25 (0, 0)) (by (with_reducible repeat (first | refine blk_drewN ?_ _ | refine blk_drew ?_ | refine blk_alloc ?_ _)); refine blk_put (cs := #[.bool t542, .string t543, .slice none 0 0]) ?_ 2 _ rfl; (with_reducible repeat (first | refine blk_drewN ?_ _ | refine blk_drew ?_ | refine blk_alloc ?_ _)); refine blk_put (cs := #[.bool t542, .string (⟨#[]⟩ : ByteArray), .slice none 0 0]) ?_ 1 _ rfl; (with_reducible repeat (first | refine blk_drewN ?_ _ | refine blk_drew ?_ | refine blk_alloc ?_ _)); refine blk_put (cs := #[.bool false, .string (⟨#[]⟩ : ByteArray), .slice none 0 0]) ?_ 0 _ rfl; (with_reducible repeat (first | refine blk_drewN ?_ _ | refine blk_drew ?_ | refine blk_alloc ?_ _)); exact BK548.out) hb); have n6_ := Aside0.mk (below_step bel_ hb); clear HO_6; clear HO_534002; clear HO546; clear BK504; clear BK533; clear BK548; clear HB; have HO_6 := n0_; have HO_534002 := n1_; have HO546 := n2_; have BK504 := n3_; have BK533 := n4_; have BK548 := n5_; have HB := n6_; clear n0_ n1_ n2_ n3_ n4_ n5_ n6_; (try clear hb); (try clear hb2); (try clear hk); (try clear hi)))
                                go_ret
                                exact ⟨by first | rfl | (simp [errW_none, errW_some] <;> rfl) | (simp [*, errW_none, errW_some] <;> rfl), bel_⟩
                              · replace c81 := Bool.eq_false_iff.mpr c81
                                subst c81
                                have H1 : (some (t547 == 10)) = some r := by rw [if_neg (show ¬ (false = true) by decide)] at H; exact H
                                clear H
                                have H := H1
                                clear H1
                                obtain rfl := Option.some.inj H
                                have hnb92 := NB504_533.out
                                have hnc92 := NB533_504.out
                                have hcz93_0 : wr.cell? ⟨gb504, 0, none⟩ = some (.bool a0_0) := (blk_cell BK504.out 0).trans rfl
                                have hcz93_1 : wr.cell? ⟨gb504, 1, none⟩ = some (.string a0_1) := (blk_cell BK504.out 1).trans rfl
                                have hcz93_2 : wr.cell? ⟨gb504, 2, none⟩ = some (.slice A0_2 l0_2.length c0_2) := (blk_cell BK504.out 2).trans rfl
                                have hfz93_0 := blk_frozen BK504.out 0
                                have hfz93_1 := blk_frozen BK504.out 1
                                have hfz93_2 := blk_frozen BK504.out 2
                                go_wp2_with (first | ((with_reducible refine gate_callee (f := 16) rfl ?_); refine goesL_ (some 116) rfl rfl Try.func16 (by kernel_rfl) rfl #[.slice A1 l1.length c1, .agg #[.bool a0_0, .string a0_1, .slice A0_2 l0_2.length c0_2]] rfl (by (try simp only [List.map_toArray, List.map_cons, List.map_nil]); first | done | rfl | (simp only [List.length_drop, List.length_take]; rfl)) ?_; (with_reducible refine (types_Inst.calls k4 _ _ l1 a0_0 a0_1 _ _ l0_2 t542 t543 t544 t547 _ ?side1 ?side2 ?side3 ?side4 A77.out).mono ?_); (case side1 => repeat (first | exact (Kd.C_below HR1.out HB.out) | (with_reducible refine Kd.C_alloc ?_ _) | (with_reducible refine Kd.C_drewN ?_ _) | (with_reducible refine Kd.C_drew ?_))); (case side2 => exact HC1.out); (case side3 => repeat (first | exact (Kd.C_below HR0_2.out HB.out) | (with_reducible refine Kd.C_alloc ?_ _) | (with_reducible refine Kd.C_drewN ?_ _) | (with_reducible refine Kd.C_drew ?_))); (case side4 => exact HC0_2.out); rintro e w94 ⟨v545, rfl, ho0, hb⟩; refine ⟨_, rfl, ?_⟩; have n0_ := Aside0.mk (Kd.R_below (by (with_reducible repeat (first | apply Kd.R_alloc | apply Kd.R_drewN | apply Kd.R_drew)); exact HO_6.out) hb); have n1_ := Aside0.mk (Kd.V_below (by (with_reducible repeat (first | apply Kd.V_alloc | apply Kd.V_drewN | apply Kd.V_drew)); exact HO_534002.out) hb); have n2_ := Aside0.mk (Kd.V_lower (Kd.V_mono (ok' := fun k_ => some k_ ≠ (.slice Ao50 t506.length co50 : Value).ownBlock ∧ k_ ≠ gb504 ∧ k_ ≠ gb533) ho0 (fun k_ hk_ => ⟨(Kd.fresh' (Kd.R_lt (by (with_reducible repeat (first | apply Kd.R_alloc | apply Kd.R_drewN | apply Kd.R_drew)); exact HO_6.out)) k_ hk_), (Kd.freshB (g := gb504) (o := .cells #[.bool a0_0, .string a0_1, .slice A0_2 l0_2.length c0_2] 25 (0, 0)) (by (with_reducible repeat (first | refine blk_drewN ?_ _ | refine blk_drew ?_ | refine blk_alloc ?_ _)); exact BK504.out) k_ hk_), (Kd.freshB (g := gb533) (o := .cells #[.bool t527, .string t528, .slice Ao57 t529.length co57] 25 (0, 0)) (by (with_reducible repeat (first | refine blk_drewN ?_ _ | refine blk_drew ?_ | refine blk_alloc ?_ _)); exact BK533.out) k_ hk_)⟩)) (below_size bel_)); have n3_ := Aside0.mk (blk_below (g := gb504) (o := .cells #[.bool a0_0, .string a0_1, .slice A0_2 l0_2.length c0_2] 25 (0, 0)) (by (with_reducible repeat (first | refine blk_drewN ?_ _ | refine blk_drew ?_ | refine blk_alloc ?_ _)); exact BK504.out) hb); have n4_ := Aside0.mk (blk_below (g := gb533) (o := .cells #[.bool t527, .string t528, .slice Ao57 t529.length co57] 25 (0, 0)) (by (with_reducible repeat (first | refine blk_drewN ?_ _ | refine blk_drew ?_ | refine blk_alloc ?_ _)); exact BK533.out) hb); have n5_ := Aside0.mk (below_step bel_ hb); clear HO_6; clear HO_534002; clear BK504; clear BK533; clear HB; have HO_6 := n0_; have HO_534002 := n1_; have HO546 := n2_; have BK504 := n3_; have BK533 := n4_; have HB := n5_; clear n0_ n1_ n2_ n3_ n4_ n5_; (try clear hb); (try clear hb2); (try clear hk); (try clear hi); (try clear ho0)) | ((with_reducible refine gate_dst (N := 15) rfl ?_); (try (refine gate_guard (by rfl) ?_; dsimp only)); refine box_event ?hg (N := 15) ?hd (cs := #[.bool false, .string (⟨#[]⟩ : ByteArray), .slice none 0 0]) (t := 25) ?hr ?_; (case hd => rfl); (case hg => rfl); (case hr => first | (go_simp; done) | (go_simp; rfl)); intro gb548 hg w95 hbox hb; have n0_ := Aside0.mk (Kd.R_below (by (with_reducible repeat (first | apply Kd.R_alloc | apply Kd.R_drewN | apply Kd.R_drew)); exact HO_6.out) hb); have n1_ := Aside0.mk (Kd.V_below (Kd.V_elderB (by (with_reducible repeat (first | apply Kd.V_alloc | apply Kd.V_drewN | apply Kd.V_drew)); exact HO_534002.out) gb548 (Nat.le_of_eq hg.symm)) hb); have n2_ := Aside0.mk (Kd.V_below (Kd.V_elderB (by (with_reducible repeat (first | apply Kd.V_alloc | apply Kd.V_drewN | apply Kd.V_drew)); exact HO546.out) gb548 (Nat.le_of_eq hg.symm)) hb); have n3_ := Aside0.mk (blk_below (g := gb504) (o := .cells #[.bool a0_0, .string a0_1, .slice A0_2 l0_2.length c0_2] 25 (0, 0)) (by (with_reducible repeat (first | refine blk_drewN ?_ _ | refine blk_drew ?_ | refine blk_alloc ?_ _)); exact BK504.out) hb); have n4_ := Aside0.mk (blk_below (g := gb533) (o := .cells #[.bool t527, .string t528, .slice Ao57 t529.length co57] 25 (0, 0)) (by (with_reducible repeat (first | refine blk_drewN ?_ _ | refine blk_drew ?_ | refine blk_alloc ?_ _)); exact BK533.out) hb); have n5_ := Aside0.mk (below_step bel_ hb); have n6_ := Aside0.mk (hbox); have n7_ := Aside0.mk ((by rw [hg]; exact (below_size bel_) : w.heap.size ≤ gb548)); have n8_ := Aside0.mk ((by rw [hg]; exact (below_size bel_) : w.heap.size ≤ gb548)); have n9_ := Aside0.mk ((by rw [hg]; exact Nat.ne_of_lt (blk_lt (g := gb504) (o := .cells #[.bool a0_0, .string a0_1, .slice A0_2 l0_2.length c0_2] 25 (0, 0)) (by (with_reducible repeat (first | refine blk_drewN ?_ _ | refine blk_drew ?_ | refine blk_alloc ?_ _)); exact BK504.out)) : gb504 ≠ gb548)); have n10_ := Aside0.mk ((by rw [hg]; exact Nat.ne_of_gt (blk_lt (g := gb504) (o := .cells #[.bool a0_0, .string a0_1, .slice A0_2 l0_2.length c0_2] 25 (0, 0)) (by (with_reducible repeat (first | refine blk_drewN ?_ _ | refine blk_drew ?_ | refine blk_alloc ?_ _)); exact BK504.out)) : gb548 ≠ gb504)); have n11_ := Aside0.mk ((by rw [hg]; exact Nat.ne_of_lt (blk_lt (g := gb533) (o := .cells #[.bool t527, .string t528, .slice Ao57 t529.length co57] 25 (0, 0)) (by (with_reducible repeat (first | refine blk_drewN ?_ _ | refine blk_drew ?_ | refine blk_alloc ?_ _)); exact BK533.out)) : gb533 ≠ gb548)); have n12_ := Aside0.mk ((by rw [hg]; exact Nat.ne_of_gt (blk_lt (g := gb533) (o := .cells #[.bool t527, .string t528, .slice Ao57 t529.length co57] 25 (0, 0)) (by (with_reducible repeat (first | refine blk_drewN ?_ _ | refine blk_drew ?_ | refine blk_alloc ?_ _)); exact BK533.out)) : gb548 ≠ gb533)); clear HO_6; clear HO_534002; clear HO546; clear BK504; clear BK533; clear HB; have HO_6 := n0_; have HO_534002 := n1_; have HO546 := n2_; have BK504 := n3_; have BK533 := n4_; have HB := n5_; have BK548 := n6_; have GW548 := n7_; have GE548 := n8_; have NB504_548 := n9_; have NB548_504 := n10_; have NB533_548 := n11_; have NB548_533 := n12_; clear n0_ n1_ n2_ n3_ n4_ n5_ n6_ n7_ n8_ n9_ n10_ n11_ n12_; clear hb hbox hg; have hnb96 := NB548_504.out; have hnc96 := NB504_548.out; have hnb97 := NB548_533.out; have hnc97 := NB533_548.out; have hcz98_0 : w95.cell? ⟨gb548, 0, none⟩ = some (.bool false) := (blk_cell BK548.out 0).trans rfl; have hcz98_1 : w95.cell? ⟨gb548, 1, none⟩ = some (.string (⟨#[]⟩ : ByteArray)) := (blk_cell BK548.out 1).trans rfl; have hcz98_2 : w95.cell? ⟨gb548, 2, none⟩ = some (.slice none 0 0) := (blk_cell BK548.out 2).trans rfl; have hfz98_0 := blk_frozen BK548.out 0; have hfz98_1 := blk_frozen BK548.out 1; have hfz98_2 := blk_frozen BK548.out 2; obtain ⟨Ao99, co99, eo99⟩ := Kd.V_slice HO546.out; subst eo99; have hcz100_0 : w95.cell? ⟨gb504, 0, none⟩ = some (.bool a0_0) := (blk_cell BK504.out 0).trans rfl; have hcz100_1 : w95.cell? ⟨gb504, 1, none⟩ = some (.string a0_1) := (blk_cell BK504.out 1).trans rfl; have hcz100_2 : w95.cell? ⟨gb504, 2, none⟩ = some (.slice A0_2 l0_2.length c0_2) := (blk_cell BK504.out 2).trans rfl; have hfz100_0 := blk_frozen BK504.out 0; have hfz100_1 := blk_frozen BK504.out 1; have hfz100_2 := blk_frozen BK504.out 2) | (go_at_call 35; (with_reducible refine (types_Same.calls t542 t543 _ _ t544 a0_0 a0_1 _ _ l0_2 false _ ?side1 ?side2 ?side3 ?side4 A80.out).mono ?_); (case side1 => refine (Kd.V_reads' (e := 25) (base := w.heap.size) (ok := fun k_ => ((some k_ ≠ (.slice Ao50 t506.length co50 : Value).ownBlock ∧ (k_ ≠ gb504 ∧ k_ ≠ gb533)) ∧ k_ ≠ gb548)) (n := t544.length) (c := co99) ?_).2.2; exact (by (with_reducible repeat (first | apply Kd.V_alloc | apply Kd.V_drewN | apply Kd.V_drew)); exact (Kd.V_mono (Kd.V_far (p := ⟨gb548, 2, none⟩) (Kd.V_far (p := ⟨gb548, 1, none⟩) (Kd.V_far (p := ⟨gb548, 0, none⟩) (Kd.V_mono HO546.out (fun k_ hk => (⟨hk, hk.2⟩ : _ ∧ k_ ≠ gb548))) (fun _ hk => hk.2) (.bool t542)) (fun _ hk => hk.2) (.string t543)) (fun _ hk => hk.2) (.slice Ao99 t544.length co99)) (fun _ h_ => h_.1)))); (case side2 => exact (Kd.V_reads' HO546.out).2.1); (case side3 => exact Kd.C_below HR0_2.out bel_); (case side4 => exact HC0_2.out); rintro e w101 ⟨rfl, hb⟩; have n0_ := Aside0.mk (Kd.R_below (by (with_reducible repeat (first | apply Kd.R_alloc | apply Kd.R_drewN | apply Kd.R_drew)); exact (Kd.R_mono (Kd.R_far (p := ⟨gb548, 2, none⟩) (Kd.R_far (p := ⟨gb548, 1, none⟩) (Kd.R_far (p := ⟨gb548, 0, none⟩) (Kd.R_types HO_6.out BK548.out (by decide)) (fun _ hk => hk.2) (.bool t542)) (fun _ hk => hk.2) (.string t543)) (fun _ hk => hk.2) (.slice Ao99 t544.length co99)) (fun _ h_ => h_.1))) hb); have n1_ := Aside0.mk (Kd.V_below (by (with_reducible repeat (first | apply Kd.V_alloc | apply Kd.V_drewN | apply Kd.V_drew)); exact (Kd.V_mono (Kd.V_far (p := ⟨gb548, 2, none⟩) (Kd.V_far (p := ⟨gb548, 1, none⟩) (Kd.V_far (p := ⟨gb548, 0, none⟩) (Kd.V_mono HO_534002.out (fun k_ hk => (⟨hk, hk.2⟩ : _ ∧ k_ ≠ gb548))) (fun _ hk => hk.2) (.bool t542)) (fun _ hk => hk.2) (.string t543)) (fun _ hk => hk.2) (.slice Ao99 t544.length co99)) (fun _ h_ => h_.1))) hb); have n2_ := Aside0.mk (Kd.V_below (by (with_reducible repeat (first | apply Kd.V_alloc | apply Kd.V_drewN | apply Kd.V_drew)); exact (Kd.V_mono (Kd.V_far (p := ⟨gb548, 2, none⟩) (Kd.V_far (p := ⟨gb548, 1, none⟩) (Kd.V_far (p := ⟨gb548, 0, none⟩) (Kd.V_mono HO546.out (fun k_ hk => (⟨hk, hk.2⟩ : _ ∧ k_ ≠ gb548))) (fun _ hk => hk.2) (.bool t542)) (fun _ hk => hk.2) (.string t543)) (fun _ hk => hk.2) (.slice Ao99 t544.length co99)) (fun _ h_ => h_.1))) hb); have n3_ := Aside0.mk (blk_below (g := gb504) (o := .cells #[.bool a0_0, .string a0_1, .slice A0_2 l0_2.length c0_2] 25 (0, 0)) (by (with_reducible repeat (first | refine blk_drewN ?_ _ | refine blk_drew ?_ | refine blk_alloc ?_ _)); refine blk_far ?_ NB504_548.out _; (with_reducible repeat (first | refine blk_drewN ?_ _ | refine blk_drew ?_ | refine blk_alloc ?_ _)); refine blk_far ?_ NB504_548.out _; (with_reducible repeat (first | refine blk_drewN ?_ _ | refine blk_drew ?_ | refine blk_alloc ?_ _)); refine blk_far ?_ NB504_548.out _; (with_reducible repeat (first | refine blk_drewN ?_ _ | refine blk_drew ?_ | refine blk_alloc ?_ _)); exact BK504.out) hb); have n4_ := Aside0.mk (blk_below (g := gb533) (o := .cells #[.bool t527, .string t528, .slice Ao57 t529.length co57] 25 (0, 0)) (by (with_reducible repeat (first | refine blk_drewN ?_ _ | refine blk_drew ?_ | refine blk_alloc ?_ _)); refine blk_far ?_ NB533_548.out _; (with_reducible repeat (first | refine blk_drewN ?_ _ | refine blk_drew ?_ | refine blk_alloc ?_ _)); refine blk_far ?_ NB533_548.out _; (with_reducible repeat (first | refine blk_drewN ?_ _ | refine blk_drew ?_ | refine blk_alloc ?_ _)); refine blk_far ?_ NB533_548.out _; (with_reducible repeat (first | refine blk_drewN ?_ _ | refine blk_drew ?_ | refine blk_alloc ?_ _)); exact BK533.out) hb); have n5_ := Aside0.mk (blk_below (g := gb548) (o := .cells #[.bool t542, .string t543, .slice Ao99 t544.length co99] 25 (0, 0)) (by (with_reducible repeat (first | refine blk_drewN ?_ _ | refine blk_drew ?_ | refine blk_alloc ?_ _)); refine blk_put (cs := #[.bool t542, .string t543, .slice none 0 0]) ?_ 2 _ rfl; (with_reducible repeat (first | refine blk_drewN ?_ _ | refine blk_drew ?_ | refine blk_alloc ?_ _)); refine blk_put (cs := #[.bool t542, .string (⟨#[]⟩ : ByteArray), .slice none 0 0]) ?_ 1 _ rfl; (with_reducible repeat (first | refine blk_drewN ?_ _ | refine blk_drew ?_ | refine blk_alloc ?_ _)); refine blk_put (cs := #[.bool false, .string (⟨#[]⟩ : ByteArray), .slice none 0 0]) ?_ 0 _ rfl; (with_reducible repeat (first | refine blk_drewN ?_ _ | refine blk_drew ?_ | refine blk_alloc ?_ _)); exact BK548.out) hb); have n6_ := Aside0.mk (below_step bel_ hb); clear HO_6; clear HO_534002; clear HO546; clear BK504; clear BK533; clear BK548; clear HB; have HO_6 := n0_; have HO_534002 := n1_; have HO546 := n2_; have BK504 := n3_; have BK533 := n4_; have BK548 := n5_; have HB := n6_; clear n0_ n1_ n2_ n3_ n4_ n5_ n6_; (try clear hb); (try clear hb2); (try clear hk); (try clear hi)))
                                go_ret
                                exact ⟨by first | rfl | (simp [errW_none, errW_some] <;> rfl) | (simp [*, errW_none, errW_some] <;> rfl), bel_⟩
                            · rw [if_neg c79] at H
                              have c79b0 : (t547 == 0) = false := beq_eq_false_iff_ne.mpr c79
                              have c79b1 : (t547 != 0) = true := bne_iff_ne.mpr c79
                              obtain rfl := Option.some.inj H
                              have hnb102 := NB504_533.out
                              have hnc102 := NB533_504.out
                              have hcz103_0 : wr.cell? ⟨gb504, 0, none⟩ = some (.bool a0_0) := (blk_cell BK504.out 0).trans rfl
                              have hcz103_1 : wr.cell? ⟨gb504, 1, none⟩ = some (.string a0_1) := (blk_cell BK504.out 1).trans rfl
                              have hcz103_2 : wr.cell? ⟨gb504, 2, none⟩ = some (.slice A0_2 l0_2.length c0_2) := (blk_cell BK504.out 2).trans rfl
                              have hfz103_0 := blk_frozen BK504.out 0
                              have hfz103_1 := blk_frozen BK504.out 1
                              have hfz103_2 := blk_frozen BK504.out 2
                              go_wp2_with (first | ((with_reducible refine gate_callee (f := 16) rfl ?_); refine goesL_ (some 116) rfl rfl Try.func16 (by kernel_rfl) rfl #[.slice A1 l1.length c1, .agg #[.bool a0_0, .string a0_1, .slice A0_2 l0_2.length c0_2]] rfl (by (try simp only [List.map_toArray, List.map_cons, List.map_nil]); first | done | rfl | (simp only [List.length_drop, List.length_take]; rfl)) ?_; (with_reducible refine (types_Inst.calls k4 _ _ l1 a0_0 a0_1 _ _ l0_2 t542 t543 t544 t547 _ ?side1 ?side2 ?side3 ?side4 A77.out).mono ?_); (case side1 => repeat (first | exact (Kd.C_below HR1.out HB.out) | (with_reducible refine Kd.C_alloc ?_ _) | (with_reducible refine Kd.C_drewN ?_ _) | (with_reducible refine Kd.C_drew ?_))); (case side2 => exact HC1.out); (case side3 => repeat (first | exact (Kd.C_below HR0_2.out HB.out) | (with_reducible refine Kd.C_alloc ?_ _) | (with_reducible refine Kd.C_drewN ?_ _) | (with_reducible refine Kd.C_drew ?_))); (case side4 => exact HC0_2.out); rintro e w104 ⟨v545, rfl, ho0, hb⟩; refine ⟨_, rfl, ?_⟩; have n0_ := Aside0.mk (Kd.R_below (by (with_reducible repeat (first | apply Kd.R_alloc | apply Kd.R_drewN | apply Kd.R_drew)); exact HO_6.out) hb); have n1_ := Aside0.mk (Kd.V_below (by (with_reducible repeat (first | apply Kd.V_alloc | apply Kd.V_drewN | apply Kd.V_drew)); exact HO_534002.out) hb); have n2_ := Aside0.mk (Kd.V_lower (Kd.V_mono (ok' := fun k_ => some k_ ≠ (.slice Ao50 t506.length co50 : Value).ownBlock ∧ k_ ≠ gb504 ∧ k_ ≠ gb533) ho0 (fun k_ hk_ => ⟨(Kd.fresh' (Kd.R_lt (by (with_reducible repeat (first | apply Kd.R_alloc | apply Kd.R_drewN | apply Kd.R_drew)); exact HO_6.out)) k_ hk_), (Kd.freshB (g := gb504) (o := .cells #[.bool a0_0, .string a0_1, .slice A0_2 l0_2.length c0_2] 25 (0, 0)) (by (with_reducible repeat (first | refine blk_drewN ?_ _ | refine blk_drew ?_ | refine blk_alloc ?_ _)); exact BK504.out) k_ hk_), (Kd.freshB (g := gb533) (o := .cells #[.bool t527, .string t528, .slice Ao57 t529.length co57] 25 (0, 0)) (by (with_reducible repeat (first | refine blk_drewN ?_ _ | refine blk_drew ?_ | refine blk_alloc ?_ _)); exact BK533.out) k_ hk_)⟩)) (below_size bel_)); have n3_ := Aside0.mk (blk_below (g := gb504) (o := .cells #[.bool a0_0, .string a0_1, .slice A0_2 l0_2.length c0_2] 25 (0, 0)) (by (with_reducible repeat (first | refine blk_drewN ?_ _ | refine blk_drew ?_ | refine blk_alloc ?_ _)); exact BK504.out) hb); have n4_ := Aside0.mk (blk_below (g := gb533) (o := .cells #[.bool t527, .string t528, .slice Ao57 t529.length co57] 25 (0, 0)) (by (with_reducible repeat (first | refine blk_drewN ?_ _ | refine blk_drew ?_ | refine blk_alloc ?_ _)); exact BK533.out) hb); have n5_ := Aside0.mk (below_step bel_ hb); clear HO_6; clear HO_534002; clear BK504; clear BK533; clear HB; have HO_6 := n0_; have HO_534002 := n1_; have HO546 := n2_; have BK504 := n3_; have BK533 := n4_; have HB := n5_; clear n0_ n1_ n2_ n3_ n4_ n5_; (try clear hb); (try clear hb2); (try clear hk); (try clear hi); (try clear ho0)) | ((with_reducible refine gate_dst (N := 15) rfl ?_); (try (refine gate_guard (by rfl) ?_; dsimp only)); refine box_event ?hg (N := 15) ?hd (cs := #[.bool false, .string (⟨#[]⟩ : ByteArray), .slice none 0 0]) (t := 25) ?hr ?_; (case hd => rfl); (case hg => rfl); (case hr => first | (go_simp; done) | (go_simp; rfl)); intro gb548 hg w105 hbox hb; have n0_ := Aside0.mk (Kd.R_below (by (with_reducible repeat (first | apply Kd.R_alloc | apply Kd.R_drewN | apply Kd.R_drew)); exact HO_6.out) hb); have n1_ := Aside0.mk (Kd.V_below (Kd.V_elderB (by (with_reducible repeat (first | apply Kd.V_alloc | apply Kd.V_drewN | apply Kd.V_drew)); exact HO_534002.out) gb548 (Nat.le_of_eq hg.symm)) hb); have n2_ := Aside0.mk (Kd.V_below (Kd.V_elderB (by (with_reducible repeat (first | apply Kd.V_alloc | apply Kd.V_drewN | apply Kd.V_drew)); exact HO546.out) gb548 (Nat.le_of_eq hg.symm)) hb); have n3_ := Aside0.mk (blk_below (g := gb504) (o := .cells #[.bool a0_0, .string a0_1, .slice A0_2 l0_2.length c0_2] 25 (0, 0)) (by (with_reducible repeat (first | refine blk_drewN ?_ _ | refine blk_drew ?_ | refine blk_alloc ?_ _)); exact BK504.out) hb); have n4_ := Aside0.mk (blk_below (g := gb533) (o := .cells #[.bool t527, .string t528, .slice Ao57 t529.length co57] 25 (0, 0)) (by (with_reducible repeat (first | refine blk_drewN ?_ _ | refine blk_drew ?_ | refine blk_alloc ?_ _)); exact BK533.out) hb); have n5_ := Aside0.mk (below_step bel_ hb); have n6_ := Aside0.mk (hbox); have n7_ := Aside0.mk ((by rw [hg]; exact (below_size bel_) : w.heap.size ≤ gb548)); have n8_ := Aside0.mk ((by rw [hg]; exact (below_size bel_) : w.heap.size ≤ gb548)); have n9_ := Aside0.mk ((by rw [hg]; exact Nat.ne_of_lt (blk_lt (g := gb504) (o := .cells #[.bool a0_0, .string a0_1, .slice A0_2 l0_2.length c0_2] 25 (0, 0)) (by (with_reducible repeat (first | refine blk_drewN ?_ _ | refine blk_drew ?_ | refine blk_alloc ?_ _)); exact BK504.out)) : gb504 ≠ gb548)); have n10_ := Aside0.mk ((by rw [hg]; exact Nat.ne_of_gt (blk_lt (g := gb504) (o := .cells #[.bool a0_0, .string a0_1, .slice A0_2 l0_2.length c0_2] 25 (0, 0)) (by (with_reducible repeat (first | refine blk_drewN ?_ _ | refine blk_drew ?_ | refine blk_alloc ?_ _)); exact BK504.out)) : gb548 ≠ gb504)); have n11_ := Aside0.mk ((by rw [hg]; exact Nat.ne_of_lt (blk_lt (g := gb533) (o := .cells #[.bool t527, .string t528, .slice Ao57 t529.length co57] 25 (0, 0)) (by (with_reducible repeat (first | refine blk_drewN ?_ _ | refine blk_drew ?_ | refine blk_alloc ?_ _)); exact BK533.out)) : gb533 ≠ gb548)); have n12_ := Aside0.mk ((by rw [hg]; exact Nat.ne_of_gt (blk_lt (g := gb533) (o := .cells #[.bool t527, .string t528, .slice Ao57 t529.length co57] 25 (0, 0)) (by (with_reducible repeat (first | refine blk_drewN ?_ _ | refine blk_drew ?_ | refine blk_alloc ?_ _)); exact BK533.out)) : gb548 ≠ gb533)); clear HO_6; clear HO_534002; clear HO546; clear BK504; clear BK533; clear HB; have HO_6 := n0_; have HO_534002 := n1_; have HO546 := n2_; have BK504 := n3_; have BK533 := n4_; have HB := n5_; have BK548 := n6_; have GW548 := n7_; have GE548 := n8_; have NB504_548 := n9_; have NB548_504 := n10_; have NB533_548 := n11_; have NB548_533 := n12_; clear n0_ n1_ n2_ n3_ n4_ n5_ n6_ n7_ n8_ n9_ n10_ n11_ n12_; clear hb hbox hg; have hnb106 := NB548_504.out; have hnc106 := NB504_548.out; have hnb107 := NB548_533.out; have hnc107 := NB533_548.out; have hcz108_0 : w105.cell? ⟨gb548, 0, none⟩ = some (.bool false) := (blk_cell BK548.out 0).trans rfl; have hcz108_1 : w105.cell? ⟨gb548, 1, none⟩ = some (.string (⟨#[]⟩ : ByteArray)) := (blk_cell BK548.out 1).trans rfl; have hcz108_2 : w105.cell? ⟨gb548, 2, none⟩ = some (.slice none 0 0) := (blk_cell BK548.out 2).trans rfl; have hfz108_0 := blk_frozen BK548.out 0; have hfz108_1 := blk_frozen BK548.out 1; have hfz108_2 := blk_frozen BK548.out 2; obtain ⟨Ao109, co109, eo109⟩ := Kd.V_slice HO546.out; subst eo109))
                              go_ret
                              exact ⟨by first | rfl | (simp [errW_none, errW_some] <;> rfl) | (simp [*, errW_none, errW_some] <;> rfl), bel_⟩
                          · replace c78 := Bool.eq_false_iff.mpr c78
                            subst c78
                            have H1 : (some false) = some r := by rw [if_neg (show ¬ (false = true) by decide)] at H; exact H
                            clear H
                            have H := H1
                            clear H1
                            obtain rfl := Option.some.inj H
                            have hnb110 := NB504_533.out
                            have hnc110 := NB533_504.out
                            have hcz111_0 : wr.cell? ⟨gb504, 0, none⟩ = some (.bool a0_0) := (blk_cell BK504.out 0).trans rfl
                            have hcz111_1 : wr.cell? ⟨gb504, 1, none⟩ = some (.string a0_1) := (blk_cell BK504.out 1).trans rfl
                            have hcz111_2 : wr.cell? ⟨gb504, 2, none⟩ = some (.slice A0_2 l0_2.length c0_2) := (blk_cell BK504.out 2).trans rfl
                            have hfz111_0 := blk_frozen BK504.out 0
                            have hfz111_1 := blk_frozen BK504.out 1
                            have hfz111_2 := blk_frozen BK504.out 2
                            go_wp2_with (first | ((with_reducible refine gate_callee (f := 16) rfl ?_); refine goesL_ (some 116) rfl rfl Try.func16 (by kernel_rfl) rfl #[.slice A1 l1.length c1, .agg #[.bool a0_0, .string a0_1, .slice A0_2 l0_2.length c0_2]] rfl (by (try simp only [List.map_toArray, List.map_cons, List.map_nil]); first | done | rfl | (simp only [List.length_drop, List.length_take]; rfl)) ?_; (with_reducible refine (types_Inst.calls k4 _ _ l1 a0_0 a0_1 _ _ l0_2 t542 t543 t544 t547 _ ?side1 ?side2 ?side3 ?side4 A77.out).mono ?_); (case side1 => repeat (first | exact (Kd.C_below HR1.out HB.out) | (with_reducible refine Kd.C_alloc ?_ _) | (with_reducible refine Kd.C_drewN ?_ _) | (with_reducible refine Kd.C_drew ?_))); (case side2 => exact HC1.out); (case side3 => repeat (first | exact (Kd.C_below HR0_2.out HB.out) | (with_reducible refine Kd.C_alloc ?_ _) | (with_reducible refine Kd.C_drewN ?_ _) | (with_reducible refine Kd.C_drew ?_))); (case side4 => exact HC0_2.out); rintro e w112 ⟨v545, rfl, ho0, hb⟩; refine ⟨_, rfl, ?_⟩; have n0_ := Aside0.mk (Kd.R_below (by (with_reducible repeat (first | apply Kd.R_alloc | apply Kd.R_drewN | apply Kd.R_drew)); exact HO_6.out) hb); have n1_ := Aside0.mk (Kd.V_below (by (with_reducible repeat (first | apply Kd.V_alloc | apply Kd.V_drewN | apply Kd.V_drew)); exact HO_534002.out) hb); have n2_ := Aside0.mk (Kd.V_lower (Kd.V_mono (ok' := fun k_ => some k_ ≠ (.slice Ao50 t506.length co50 : Value).ownBlock ∧ k_ ≠ gb504 ∧ k_ ≠ gb533) ho0 (fun k_ hk_ => ⟨(Kd.fresh' (Kd.R_lt (by (with_reducible repeat (first | apply Kd.R_alloc | apply Kd.R_drewN | apply Kd.R_drew)); exact HO_6.out)) k_ hk_), (Kd.freshB (g := gb504) (o := .cells #[.bool a0_0, .string a0_1, .slice A0_2 l0_2.length c0_2] 25 (0, 0)) (by (with_reducible repeat (first | refine blk_drewN ?_ _ | refine blk_drew ?_ | refine blk_alloc ?_ _)); exact BK504.out) k_ hk_), (Kd.freshB (g := gb533) (o := .cells #[.bool t527, .string t528, .slice Ao57 t529.length co57] 25 (0, 0)) (by (with_reducible repeat (first | refine blk_drewN ?_ _ | refine blk_drew ?_ | refine blk_alloc ?_ _)); exact BK533.out) k_ hk_)⟩)) (below_size bel_)); have n3_ := Aside0.mk (blk_below (g := gb504) (o := .cells #[.bool a0_0, .string a0_1, .slice A0_2 l0_2.length c0_2] 25 (0, 0)) (by (with_reducible repeat (first | refine blk_drewN ?_ _ | refine blk_drew ?_ | refine blk_alloc ?_ _)); exact BK504.out) hb); have n4_ := Aside0.mk (blk_below (g := gb533) (o := .cells #[.bool t527, .string t528, .slice Ao57 t529.length co57] 25 (0, 0)) (by (with_reducible repeat (first | refine blk_drewN ?_ _ | refine blk_drew ?_ | refine blk_alloc ?_ _)); exact BK533.out) hb); have n5_ := Aside0.mk (below_step bel_ hb); clear HO_6; clear HO_534002; clear BK504; clear BK533; clear HB; have HO_6 := n0_; have HO_534002 := n1_; have HO546 := n2_; have BK504 := n3_; have BK533 := n4_; have HB := n5_; clear n0_ n1_ n2_ n3_ n4_ n5_; (try clear hb); (try clear hb2); (try clear hk); (try clear hi); (try clear ho0)) | ((with_reducible refine gate_dst (N := 15) rfl ?_); (try (refine gate_guard (by rfl) ?_; dsimp only)); refine box_event ?hg (N := 15) ?hd (cs := #[.bool false, .string (⟨#[]⟩ : ByteArray), .slice none 0 0]) (t := 25) ?hr ?_; (case hd => rfl); (case hg => rfl); (case hr => first | (go_simp; done) | (go_simp; rfl)); intro gb548 hg w113 hbox hb; have n0_ := Aside0.mk (Kd.R_below (by (with_reducible repeat (first | apply Kd.R_alloc | apply Kd.R_drewN | apply Kd.R_drew)); exact HO_6.out) hb); have n1_ := Aside0.mk (Kd.V_below (Kd.V_elderB (by (with_reducible repeat (first | apply Kd.V_alloc | apply Kd.V_drewN | apply Kd.V_drew)); exact HO_534002.out) gb548 (Nat.le_of_eq hg.symm)) hb); have n2_ := Aside0.mk (Kd.V_below (Kd.V_elderB (by (with_reducible repeat (first | apply Kd.V_alloc | apply Kd.V_drewN | apply Kd.V_drew)); exact HO546.out) gb548 (Nat.le_of_eq hg.symm)) hb); have n3_ := Aside0.mk (blk_below (g := gb504) (o := .cells #[.bool a0_0, .string a0_1, .slice A0_2 l0_2.length c0_2] 25 (0, 0)) (by (with_reducible repeat (first | refine blk_drewN ?_ _ | refine blk_drew ?_ | refine blk_alloc ?_ _)); exact BK504.out) hb); have n4_ := Aside0.mk (blk_below (g := gb533) (o := .cells #[.bool t527, .string t528, .slice Ao57 t529.length co57] 25 (0, 0)) (by (with_reducible repeat (first | refine blk_drewN ?_ _ | refine blk_drew ?_ | refine blk_alloc ?_ _)); exact BK533.out) hb); have n5_ := Aside0.mk (below_step bel_ hb); have n6_ := Aside0.mk (hbox); have n7_ := Aside0.mk ((by rw [hg]; exact (below_size bel_) : w.heap.size ≤ gb548)); have n8_ := Aside0.mk ((by rw [hg]; exact (below_size bel_) : w.heap.size ≤ gb548)); have n9_ := Aside0.mk ((by rw [hg]; exact Nat.ne_of_lt (blk_lt (g := gb504) (o := .cells #[.bool a0_0, .string a0_1, .slice A0_2 l0_2.length c0_2] 25 (0, 0)) (by (with_reducible repeat (first | refine blk_drewN ?_ _ | refine blk_drew ?_ | refine blk_alloc ?_ _)); exact BK504.out)) : gb504 ≠ gb548)); have n10_ := Aside0.mk ((by rw [hg]; exact Nat.ne_of_gt (blk_lt (g := gb504) (o := .cells #[.bool a0_0, .string a0_1, .slice A0_2 l0_2.length c0_2] 25 (0, 0)) (by (with_reducible repeat (first | refine blk_drewN ?_ _ | refine blk_drew ?_ | refine blk_alloc ?_ _)); exact BK504.out)) : gb548 ≠ gb504)); have n11_ := Aside0.mk ((by rw [hg]; exact Nat.ne_of_lt (blk_lt (g := gb533) (o := .cells #[.bool t527, .string t528, .slice Ao57 t529.length co57] 25 (0, 0)) (by (with_reducible repeat (first | refine blk_drewN ?_ _ | refine blk_drew ?_ | refine blk_alloc ?_ _)); exact BK533.out)) : gb533 ≠ gb548)); have n12_ := Aside0.mk ((by rw [hg]; exact Nat.ne_of_gt (blk_lt (g := gb533) (o := .cells #[.bool t527, .string t528, .slice Ao57 t529.length co57] 25 (0, 0)) (by (with_reducible repeat (first | refine blk_drewN ?_ _ | refine blk_drew ?_ | refine blk_alloc ?_ _)); exact BK533.out)) : gb548 ≠ gb533)); clear HO_6; clear HO_534002; clear HO546; clear BK504; clear BK533; clear HB; have HO_6 := n0_; have HO_534002 := n1_; have HO546 := n2_; have BK504 := n3_; have BK533 := n4_; have HB := n5_; have BK548 := n6_; have GW548 := n7_; have GE548 := n8_; have NB504_548 := n9_; have NB548_504 := n10_; have NB533_548 := n11_; have NB548_533 := n12_; clear n0_ n1_ n2_ n3_ n4_ n5_ n6_ n7_ n8_ n9_ n10_ n11_ n12_; clear hb hbox hg; have hnb114 := NB548_504.out; have hnc114 := NB504_548.out; have hnb115 := NB548_533.out; have hnc115 := NB533_548.out; have hcz116_0 : w113.cell? ⟨gb548, 0, none⟩ = some (.bool false) := (blk_cell BK548.out 0).trans rfl; have hcz116_1 : w113.cell? ⟨gb548, 1, none⟩ = some (.string (⟨#[]⟩ : ByteArray)) := (blk_cell BK548.out 1).trans rfl; have hcz116_2 : w113.cell? ⟨gb548, 2, none⟩ = some (.slice none 0 0) := (blk_cell BK548.out 2).trans rfl; have hfz116_0 := blk_frozen BK548.out 0; have hfz116_1 := blk_frozen BK548.out 1; have hfz116_2 := blk_frozen BK548.out 2; obtain ⟨Ao117, co117, eo117⟩ := Kd.V_slice HO546.out; subst eo117))
                            go_ret
                            exact ⟨by first | rfl | (simp [errW_none, errW_some] <;> rfl) | (simp [*, errW_none, errW_some] <;> rfl), bel_⟩

end Go.Proofs.Ytgnklkmifcmlhaa.Q
/- Proved here: the law TypesVars over lists and numbers (no program in sight). Conditions: those that each theorem names. -/
namespace Go.Proofs.Ytgnklkmifcmlhaa.Q
open Go.RowKit Go.Proofs.YtgnklkmifcmlhaaW.PrintWords Go.Proofs.YtgnklkmifcmlhaaW.PrintMore
set_option linter.unusedVariables false
set_option linter.unusedSimpArgs false

/-! ### In -/
theorem inS_iff (l : List ByteArray) (a : ByteArray) : inS l a = true ↔ a ∈ l := by
  unfold inS
  rw [List.any_eq_true]
  constructor
  · rintro ⟨x, hx, he⟩
    have := (bytes_toList _ _).1 (beq_iff_eq.1 he)
    first
      | exact this ▸ hx
      | exact this.symm ▸ hx
  · intro h
    exact ⟨a, h, by simp⟩
theorem rdS (l : List ByteArray) (j : Nat) (h : j < l.length) : rdOf ByteArray.empty l (j : Int) = l[j] := by
  unfold rdOf
  simp only [Int.toNat_natCast]
  rw [List.getD_eq_getElem?_getD, List.getElem?_eq_getElem h]
  rfl
theorem in_ev (l : List ByteArray) (a : ByteArray) (hl : l.length ≤ 4611686018427387904) : Ev (fun k => sequentref01_In.f k l a) (inS l a) := by
  simp only [sequentref01_In.f]
  refine Ev.val (down (fun j => Ev (fun k => sequentref01_In.l0 k l a (j : Int)) (inS (l.drop j) a)) l.length ?_ ?_) (by simp)
  · refine Ev.succ ?_
    simp only [sequentref01_In.l0]
    refine Ev.neg (by omega) ((Ev.pure _).val ?_)
    simp [inS]
  · intro j hj h
    refine Ev.succ ?_
    simp only [sequentref01_In.l0]
    refine Ev.pos (by omega) (Ev.pos (by omega) ?_)
    rw [rdS l j hj, List.drop_eq_getElem_cons hj]
    refine Ev.ite (fun e => (Ev.pure _).val ?_) (fun e => ?_)
    · unfold inS
      rw [List.any_cons, e, beq_self_eq_true, Bool.true_or]
    · rw [w64s (by omega)]
      refine h.val ?_
      unfold inS
      rw [List.any_cons, beq_eq_false_iff_ne.2 (fun h => e h.symm), Bool.false_or]

/-! ### the variables of a type -/
theorem varStep_sub (out : List ByteArray) (x : S25) (a : ByteArray) (h : a ∈ out) : a ∈ varStep out x := by
  unfold varStep
  split
  · split
    · exact h
    · exact List.mem_append_left _ h
  · exact h
theorem varsL_sub : ∀ (l : List S25) (out : List ByteArray) (a : ByteArray), a ∈ out → a ∈ varsL l out
  | [], out, a, h => h
  | x :: l, out, a, h => varsL_sub l (varStep out x) a (varStep_sub out x a h)
theorem varsL_mem : ∀ (l : List S25) (out : List ByteArray) (x : S25), x ∈ l → x.f0 = true → x.f1 ∈ varsL l out
  | y :: l, out, x, h, hv => by
    rcases List.mem_cons.1 h with rfl | h
    · refine varsL_sub l (varStep out x) _ ?_
      unfold varStep
      rw [if_pos hv]
      split
      · rename_i hi
        exact (inS_iff _ _).1 hi
      · simp
    · exact varsL_mem l (varStep out y) x h hv
theorem varsL_of : ∀ (l : List S25) (out : List ByteArray) (a : ByteArray), a ∈ varsL l out → a ∈ out ∨ ∃ x, x ∈ l ∧ x.f0 = true ∧ x.f1 = a
  | [], out, a, h => .inl h
  | y :: l, out, a, h => by
    rcases varsL_of l (varStep out y) a h with h | ⟨x, hx, hv, he⟩
    · unfold varStep at h
      split at h
      · rename_i hv
        split at h
        · exact .inl h
        · rcases List.mem_append.1 h with h | h
          · exact .inl h
          · exact .inr ⟨y, List.mem_cons_self .., hv, (List.mem_singleton.1 h).symm⟩
      · exact .inl h
    · exact .inr ⟨x, List.mem_cons_of_mem _ hx, hv, he⟩
theorem varsL_nodup : ∀ (l : List S25) (out : List ByteArray), out.Nodup → (varsL l out).Nodup
  | [], out, h => h
  | y :: l, out, h => by
    refine varsL_nodup l (varStep out y) ?_
    unfold varStep
    split
    · split
      · exact h
      · rename_i hi
        rw [List.nodup_append]
        refine ⟨h, by simp, ?_⟩
        intro a ha b hb he
        rw [List.mem_singleton.1 hb] at he
        exact hi ((inS_iff _ _).2 (he ▸ ha))
    · exact h
theorem varsL_none : ∀ (l : List S25) (out : List ByteArray), (∀ x, x ∈ l → x.f0 = false) → varsL l out = out
  | [], out, h => rfl
  | y :: l, out, h => by
    have : varStep out y = out := by unfold varStep; rw [if_neg (by rw [h y (List.mem_cons_self ..)]; simp)]
    show varsL l (varStep out y) = out
    rw [this]
    exact varsL_none l out (fun x hx => h x (List.mem_cons_of_mem _ hx))
theorem nodup_take {l : List ByteArray} (h : l.Nodup) (j : Nat) (hj : j < l.length) : ¬ l[j] ∈ l.take j := by
  intro hm
  rw [List.mem_iff_getElem] at hm
  obtain ⟨i, hi, he⟩ := hm
  rw [List.length_take] at hi
  rw [List.getElem_take] at he
  rw [List.nodup_iff_pairwise_ne, List.pairwise_iff_getElem] at h
  exact h i j (by omega) hj (by omega) he

/-! ### every node of a valid type -/
mutual
theorem shB_node : ∀ t : S25, shB t = true → ∀ x, x ∈ preT t → shB x = true
  | ⟨v, n, l⟩, h, x, hx => by
    simp only [preT, List.mem_cons] at hx
    rcases hx with rfl | hx
    · exact h
    · simp only [shB, Bool.and_eq_true] at h
      exact shBL_node l h.2 x hx
theorem shBL_node : ∀ l : List S25, shBL l = true → ∀ x, x ∈ preL l → shB x = true
  | a :: l, h, x, hx => by
    simp only [shBL, Bool.and_eq_true] at h
    simp only [preL, List.mem_append] at hx
    rcases hx with hx | hx
    · exact shB_node a h.1 x hx
    · exact shBL_node l h.2 x hx
end
theorem shB_var {x : S25} (h : shB x = true) (hv : x.f0 = true) : varB x.f1 = true ∧ x.f2 = [] := by
  rw [shB_eq, Bool.and_eq_true] at h
  have hh := h.1
  unfold headB at hh
  rw [Bool.and_eq_true, if_pos hv, Bool.and_eq_true] at hh
  unfold varB
  rw [hh.1, hh.2.1]
  exact ⟨rfl, List.length_eq_zero_iff.1 (by simpa using hh.2.2)⟩

/-! ### all variables bound to bool -/
def tB0 : S25 := ⟨false, boolN, []⟩
def allB (l : List ByteArray) : List S59 := l.map fun a => ⟨a, tB0⟩
theorem tB0_chk : chkB tB0 = true := by decide +kernel
theorem allB_find (l : List ByteArray) (a : ByteArray) (h : a ∈ l) : ∃ b, (allB l).find? (findP a) = some b ∧ b.f1 = tB0 := by
  cases hf : (allB l).find? (findP a) with
  | none =>
    rw [List.find?_eq_none] at hf
    exact absurd (findP_self a tB0) (by have := hf ⟨a, tB0⟩ (List.mem_map.2 ⟨a, h, rfl⟩); simpa using this)
  | some b =>
    refine ⟨b, rfl, ?_⟩
    obtain ⟨c, _, rfl⟩ := List.mem_map.1 (List.mem_of_find?_eq_some hf)
    rfl
mutual
theorem instB : ∀ (t : S25) (s : List S59), shB t = true → (∀ x, x ∈ preT t → x.f0 = true → ∃ b, s.find? (findP x.f1) = some b ∧ b.f1 = tB0) → szT (instT s t) = szT t ∧ dpT (instT s t) = dpT t ∧ (instT s t).f0 = false ∧ ∀ x, x ∈ preT (instT s t) → x.f0 = false
  | ⟨v, n, l⟩, s, hs, h => by
    cases v with
    | true =>
      obtain ⟨b, hb, he⟩ := h ⟨true, n, l⟩ (by simp [preT]) rfl
      obtain rfl : l = [] := (shB_var hs rfl).2
      dsimp only at hb
      simp only [instT, if_true, hb, he]
      refine ⟨rfl, rfl, rfl, fun x hx => ?_⟩
      have hx' : x ∈ [tB0] := hx
      rw [List.mem_singleton.1 hx']
      rfl
    | false =>
      simp only [shB, Bool.and_eq_true] at hs
      obtain ⟨h1, h2, h3⟩ := instBL l s hs.2 (fun x hx => h x (by simp only [preT, List.mem_cons]; exact .inr hx))
      rw [instT_op]
      refine ⟨by simp only [szT, h1], by simp only [dpT, h2], rfl, fun x hx => ?_⟩
      simp only [preT, List.mem_cons] at hx
      rcases hx with rfl | hx
      · rfl
      · exact h3 x hx
theorem instBL : ∀ (l : List S25) (s : List S59), shBL l = true → (∀ x, x ∈ preL l → x.f0 = true → ∃ b, s.find? (findP x.f1) = some b ∧ b.f1 = tB0) → szL (instL s l) = szL l ∧ dpL (instL s l) = dpL l ∧ ∀ x, x ∈ preL (instL s l) → x.f0 = false
  | [], s, hs, h => ⟨rfl, rfl, fun x hx => by simp [instL, preL] at hx⟩
  | a :: l, s, hs, h => by
    simp only [shBL, Bool.and_eq_true] at hs
    obtain ⟨h1, h2, _, h3⟩ := instB a s hs.1 (fun x hx => h x (by simp only [preL, List.mem_append]; exact .inl hx))
    obtain ⟨h4, h5, h6⟩ := instBL l s hs.2 (fun x hx => h x (by simp only [preL, List.mem_append]; exact .inr hx))
    simp only [instL]
    refine ⟨by simp only [szL, h1, h4], by simp only [dpL, h2, h5], fun x hx => ?_⟩
    simp only [preL, List.mem_append] at hx
    rcases hx with hx | hx
    · exact h3 x hx
    · exact h6 x hx
end
mutual
theorem instN : ∀ (t : S25) (s : List S59), (∀ x, x ∈ preT t → x.f0 = true → s.find? (findP x.f1) = none) → okT t → instT s t = t
  | ⟨v, n, l⟩, s, h, hok => by
    simp only [okT] at hok
    cases v with
    | true =>
      obtain rfl := hok.1 rfl
      have := h ⟨true, n, []⟩ (by simp [preT]) rfl
      dsimp only at this
      simp only [instT, if_true, this]
    | false =>
      rw [instT_op, instNL l s (fun x hx => h x (by simp only [preT, List.mem_cons]; exact .inr hx)) hok.2]
theorem instNL : ∀ (l : List S25) (s : List S59), (∀ x, x ∈ preL l → x.f0 = true → s.find? (findP x.f1) = none) → okL l → instL s l = l
  | [], s, h, hok => rfl
  | a :: l, s, h, hok => by
    simp only [okL] at hok
    rw [instL, instN a s (fun x hx => h x (by simp only [preL, List.mem_append]; exact .inl hx)) hok.1, instNL l s (fun x hx => h x (by simp only [preL, List.mem_append]; exact .inr hx)) hok.2]
end

/-! ### the law -/
theorem samep_ev (x y : S25) : Ev (fun k => types_Same.f x.f0 x.f1 x.f2 y.f0 y.f1 y.f2) (cmpT x y == 0) := by
  simp only [types_Same.f, types_Compare.f, Option.bind_some]
  exact (Ev.pure _).val (by cases x; cases y; rfl)
theorem bool_f : types_Bool.f = some (false, boolN, []) := rfl

theorem law_vars_j2 (t : S25) (s : List S59) (l : List ByteArray) (hl : l = varsL (preT t) []) (ht : chkB t = true) (hft : fit t) (hfs : ∀ b, b ∈ s → fitB b) (hsl : s.length ≤ 100) : Ev (fun k => sequentlaw01_TypesVars.j2 k s true l false t.f0 t.f1 t.f2) true := by
  obtain ⟨hsh, hsz, hdp⟩ := chkB_sh ht
  have hll : l.length ≤ 4611686018427387904 := by
    rw [hl]
    have := varsL_len (preT t) []
    rw [preT_length] at this
    simp at this
    omega
  refine Ev.succ ?_
  simp only [sequentlaw01_TypesVars.j2]
  refine Ev.neg (by simp) ?_
  have key : ∀ d j, j + d = s.length → (∀ i (hi : i < s.length), i < j → inS l (s[i]).f0 = false) → Ev (fun k => sequentlaw01_TypesVars.l1 k s true l (j : Int) t.f0 t.f1 t.f2) true := by
    intro d
    induction d with
    | zero =>
      intro j hj hn
      refine Ev.succ ?_
      simp only [sequentlaw01_TypesVars.l1]
      refine Ev.neg (by omega) ?_
      refine Ev.bind (instP_ev s t hfs hft) ?_
      have hi : instT s t = t := instN t s (fun x hx hv => by
        rw [List.find?_eq_none]
        intro b hb hp
        obtain ⟨i, hi, he⟩ := List.mem_iff_getElem.1 hb
        have h1 := hn i hi (by omega)
        have h2 := varsL_mem (preT t) [] x hx hv
        rw [← hl] at h2
        rw [he, findP_eq hp, (inS_iff _ _).2 h2] at h1
        simp at h1) (shB_okT t hsh)
      refine Ev.pos (by trivial) (Ev.ite (fun e => ?_) (fun e => (Ev.pure _).val ?_))
      · have h1 : (instF s t).1 = t := by rw [(instF_ok e).2.2.1, hi]
        rw [h1]
        refine Ev.bind (samep_ev t t) ?_
        rw [cmpT_self]
        exact Ev.pos rfl (Ev.pure _)
      · unfold instF at e ⊢
        rw [hi] at e ⊢
        split
        · rename_i hh
          rw [if_pos hh, if_pos ⟨hsz, hdp⟩] at e
          exact absurd rfl e
        · rfl
    | succ d ih =>
      intro j hj hn
      have hjl : j < s.length := by omega
      refine Ev.succ ?_
      simp only [sequentlaw01_TypesVars.l1]
      refine Ev.pos (by omega) (Ev.pos (by omega) ?_)
      rw [rdB s j hjl]
      refine Ev.bind (in_ev l _ hll) (Ev.ite (fun e => Ev.pure _) (fun e => ?_))
      rw [w64s (by omega)]
      refine ih (j + 1) (by omega) (fun i hi hij => ?_)
      by_cases h2 : i = j
      · subst h2
        simpa using e
      · exact hn i hi (by omega)
  exact key s.length 0 (by omega) (fun i hi h => by omega)
theorem law_vars_l0 (t : S25) (s : List S59) (l : List ByteArray) (hl : l = varsL (preT t) []) (ht : chkB t = true) (hft : fit t) (hfs : ∀ b, b ∈ s → fitB b) (hsl : s.length ≤ 100) : Ev (fun k => sequentlaw01_TypesVars.l0 k s true l [] 0 t.f0 t.f1 t.f2) true := by
  obtain ⟨hsh, hsz, hdp⟩ := chkB_sh ht
  have hll : l.length ≤ 500 := by
    rw [hl]
    have := varsL_len (preT t) []
    rw [preT_length] at this
    simp at this
    omega
  have hnd : l.Nodup := by rw [hl]; exact varsL_nodup _ _ List.nodup_nil
  have hvar : ∀ a, a ∈ l → varB a = true := fun a ha => by
    rw [hl] at ha
    rcases varsL_of _ _ a ha with h | ⟨x, hx, hv, he⟩
    · simp at h
    · rw [← he]; exact (shB_var (shB_node t hsh x hx) hv).1
  have key : ∀ d j, j + d = l.length → Ev (fun k => sequentlaw01_TypesVars.l0 k s true l (allB (l.take j)) (j : Int) t.f0 t.f1 t.f2) true := by
    intro d
    induction d with
    | zero =>
      intro j hj
      obtain rfl : j = l.length := by omega
      rw [List.take_length]
      refine Ev.succ ?_
      simp only [sequentlaw01_TypesVars.l0]
      refine Ev.neg (by omega) ?_
      have hva : vldB (allB l) = true := by
        unfold vldB allB
        rw [List.all_eq_true]
        intro b hb
        obtain ⟨a, ha, rfl⟩ := List.mem_map.1 hb
        rw [hvar a ha, tB0_chk]
        rfl
      obtain ⟨h1, h2, _, h3⟩ := instB t (allB l) hsh (fun x hx hv => allB_find l x.f1 (by rw [hl]; exact varsL_mem _ _ x hx hv))
      have hsu := shB_inst t (allB l) hsh hva
      have hi : instF (allB l) t = (instT (allB l) t, 0) := by
        unfold instF
        rw [hva, ht, if_pos (show (true && true) = true from rfl), h1, h2, if_pos ⟨hsz, hdp⟩]
      generalize instT (allB l) t = u at *
      have hcu : chkB u = true := chkB_mk hsu (by omega) (by omega)
      have hfu := chkB_fit hcu
      have hev := instP_ev (allB l) t (vldB_fit hva) hft
      rw [hi] at hev
      refine Ev.bind hev ?_
      have hvu : varsF u = ([], 0) := by
        unfold varsF
        rw [if_pos hcu, varsL_none _ _ h3]
      have hev2 := vars_ev u hfu
      rw [hvu] at hev2
      refine Ev.bind hev2 ?_
      refine Ev.pos rfl (Ev.pos rfl (Ev.pos rfl ?_))
      refine Ev.bind (size_ev u (by omega)) (Ev.bind (size_ev t (by omega)) ?_)
      have he : ((szT u : Int) != (szT t : Int)) = false := by rw [h1]; exact bne_self_eq_false _
      rw [he]
      exact law_vars_j2 t s l hl ht hft hfs hsl
    | succ d ih =>
      intro j hj
      have hjl : j < l.length := by omega
      refine Ev.succ ?_
      simp only [sequentlaw01_TypesVars.l0]
      refine Ev.pos (by omega) (Ev.pos (by omega) (Ev.pos (by omega) ?_))
      rw [rdS l j hjl, Int.toNat_natCast]
      have hin : inS (l.take j) l[j] = false := by
        cases h : inS (l.take j) l[j] with
        | false => rfl
        | true => exact absurd ((inS_iff _ _).1 h) (nodup_take hnd j hjl)
      have hev := in_ev (l.take j) l[j] (by rw [List.length_take]; omega)
      rw [hin] at hev
      refine Ev.bind hev (Ev.neg (by simp) ?_)
      rw [bool_f]
      refine Ev.bind (Ev.pure _) (Ev.pos (by unfold allB; rw [List.length_map, List.length_take]; omega) ?_)
      rw [w64s (by omega)]
      have hq : allB (l.take j) ++ [(⟨l[j], (⟨false, boolN, []⟩ : S25)⟩ : S59)] = allB (l.take (j + 1)) := by
        unfold allB
        rw [List.take_succ_eq_append_getElem hjl, List.map_append]
        rfl
      dsimp only
      rw [hq]
      exact ih (j + 1) (by omega)
  exact key l.length 0 (by omega)
theorem law_vars_ev (t : S25) (s : List S59) (hft : fit t) (hwt : wd t) (hws : ∀ b, b ∈ s → wdB b) : Ev (fun k => sequentlaw01_TypesVars.f k t.f0 t.f1 t.f2 s) true := by
  simp only [sequentlaw01_TypesVars.f, sequentlaw01_alive.f, Option.bind_some]
  refine Ev.bind (vars_ev t hft) ?_
  have hj0 : (varsF t).2 = 0 ∨ (varsF t).1 = [] := by
    unfold varsF
    split <;> simp
  have hall : Ev (fun k => sequentlaw01_TypesVars.j0 k s true (varsF t).1 (varsF t).2 true t.f0 t.f1 t.f2) true := by
    refine Ev.succ ?_
    simp only [sequentlaw01_TypesVars.j0]
    refine Ev.pos (by trivial) (Ev.pos (by trivial) (Ev.ite (fun e => Ev.pure _) (fun e => (Ev.pure _).val ?_)))
    rcases hj0 with h | h
    · exact absurd h e
    · rw [h]; rfl
  refine Ev.bind (great_ev t hwt) (Ev.ite (fun e => hall) (fun e => ?_))
  refine Ev.bind (greats_ev s hws) (Ev.ite (fun e2 => hall) (fun e2 => ?_))
  refine Ev.ite (fun e3 => ?_) (fun e3 => hall)
  rw [Bool.not_eq_true] at e e2
  obtain ⟨h100, hsm⟩ := greatS_mem e2
  have hfs : ∀ b, b ∈ s → fitB b := fun b hb => ⟨(hws b hb).1, fit_of_wd (hws b hb).2 (by have := (hsm b hb).1; omega)⟩
  have hc : chkB t = true := by
    cases h : chkB t with
    | true => rfl
    | false => unfold varsF at e3; rw [if_neg (by rw [h]; simp)] at e3; simp at e3
  have hv : varsF t = (varsL (preT t) [], 0) := by unfold varsF; rw [if_pos hc]
  rw [hv]
  refine Ev.succ ?_
  simp only [sequentlaw01_TypesVars.j0]
  exact Ev.neg (by simp) (law_vars_l0 t s _ rfl hc hft hfs h100)
theorem law_vars (t : S25) (A : Option Addr) (c : Nat) (s : List S59) (D : Option Addr) (f : Nat) (w : World) (hA : k25.C w A t.f2.length t.f2) (hc : t.f2.length ≤ c) (hwt : wd t) (hz : szT t ≤ 1048576) (hD : k59.C w D s.length s) (hf : s.length ≤ f) (hsl : s.length ≤ 4611686018427387904) (hws : ∀ b, b ∈ s → wdB b) :
    Calls Try.prog 8 #[.agg #[.bool t.f0, .string t.f1, .slice A t.f2.length c], .slice D s.length f] w fun e w' => e = .returned (.bool true) ∧ Below w.heap.size w w' := by
  obtain ⟨k, hk⟩ := (law_vars_ev t s (fit_of_wd hwt (by omega)) hwt hws).at
  exact sequentlaw01_TypesVars.calls k t.f0 t.f1 A c t.f2 D f s true w hA hc hD hf hk
end Go.Proofs.Ytgnklkmifcmlhaa.Q
