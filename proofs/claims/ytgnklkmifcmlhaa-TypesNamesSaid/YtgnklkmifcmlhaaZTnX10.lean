/- Proved here: parts of the proof of a given statement (HRowTypesNames): contracts of the functions that it reaches, what they answer, and in the last text the statement itself. Conditions: those that each theorem names. -/
import Derived.Test.YtgnklkmifcmlhaaZTnX7
import Derived.Test.YtgnklkmifcmlhaaZTnX9
import Derived.Test.YtgnklkmifcmlhaaZTnX6
/- Proved here: the laws' alive returns true. Conditions: none. -/
namespace Go.Proofs.Ytgnklkmifcmlhaa.Q
open Go.RowKit Go.Shelf Go.Proofs.YtgnklkmifcmlhaaW.PrintWords Go.Proofs.YtgnklkmifcmlhaaW.PrintMore
set_option linter.unusedVariables false
set_option linter.unusedSimpArgs false
attribute [local go_sem] Oper.semAt_some

def vA : ByteArray := ⟨#[39, 97]⟩
def vB : ByteArray := ⟨#[39, 98]⟩
def tA : S25 := ⟨true, vA, []⟩
def tB : S25 := ⟨true, vB, []⟩
def tBool : S25 := ⟨false, boolN, []⟩
def tFn (x y : S25) : S25 := ⟨false, funN, [x, y]⟩
set_option maxRecDepth 100000 in
theorem al_vars : varsF (tFn tB (tFn tA tB)) = ([vB, vA], 0) := by kernel_rfl
set_option maxRecDepth 100000 in
theorem al_inst : instF [⟨vA, tBool⟩, ⟨vB, tA⟩] (tFn tA tB) = (tFn tBool tA, 0) := by kernel_rfl
set_option maxRecDepth 100000 in
theorem al_match1 : matchF (tFn tA tA) (tFn tBool tBool) [] = ([⟨vA, tBool⟩], true, 0) := by kernel_rfl
set_option maxRecDepth 100000 in
theorem al_match2 : matchF (tFn tA tA) (tFn tBool tB) [] = ([], false, 0) := by kernel_rfl
theorem fit_leaf (v : Bool) (n : ByteArray) (h : n.size ≤ 4611686018427387904) : fit ⟨v, n, []⟩ := ⟨by simp [szT, szL], by simp [allT, allL, okS, h]⟩
theorem fit_fn {x y : S25} (hx : fit x) (hy : fit y) (h : szT x + szT y ≤ 1000) : fit (tFn x y) := ⟨by simp only [tFn, szT, szL]; omega, by
  have h1 := hx.2
  have h2 := hy.2
  simp only [tFn, allT, allL]
  exact ⟨by unfold okS; decide, h1, h2, trivial⟩⟩
theorem fit_tA : fit tA := fit_leaf _ _ (by decide)
theorem fit_tB : fit tB := fit_leaf _ _ (by decide)
theorem fit_tBool : fit tBool := fit_leaf _ _ (by decide)

abbrev AlS (w : World) (g : Nat) (A : Option Addr) (c : Nat) (W : World) : Prop :=
  W.cell? ⟨g, 0, none⟩ = some (.bool false) ∧ W.cell? ⟨g, 1, none⟩ = some (.string funN) ∧ W.cell? ⟨g, 2, none⟩ = some (.slice A 2 c) ∧ Below w.heap.size w W
theorem AlS.step {w : World} {g : Nat} {A : Option Addr} {c : Nat} {W W' : World} (h : AlS w g A c W) (hb : Below W.heap.size W W') : AlS w g A c W' :=
  ⟨pw_cell_below hb h.1, pw_cell_below hb h.2.1, pw_cell_below hb h.2.2.1, below_step h.2.2.2 hb⟩
set_option maxHeartbeats 4000000 in
set_option maxRecDepth 100000 in
theorem alive_calls (w : World) : Calls Try.prog 40 #[] w fun e w' => e = .returned (.bool true) ∧ Below w.heap.size w w' := by
  have hfun := fun x y a b W (ha : Tr W a x) (hb : Tr W b y) (h : szT x + szT y ≤ 1000) => fun_tr x y a b W ha hb (by omega) (by omega)
  have hfun2 := hfun
  have hvars : ∀ a W, Tr W a (tFn tB (tFn tA tB)) → Calls Try.prog 23 #[a] W fun e w' => ∃ A c, e = .returned (.tuple #[.slice A 2 c, .int .i64 0]) ∧ 2 ≤ c ∧ Kd.C Kd.string w' A [vB, vA].length [vB, vA] ∧ Below W.heap.size W w' := by
    intro a W ha
    have h := vars_tr _ a W ha (fit_fn fit_tB (fit_fn fit_tA fit_tB (by decide)) (by decide))
    rw [al_vars] at h
    exact h
  have hinst : ∀ A0 c0 a W, k59.C W A0 2 [⟨vA, tBool⟩, ⟨vB, tA⟩] → 2 ≤ c0 → Tr W a (tFn tA tB) → Calls Try.prog 16 #[.slice A0 2 c0, a] W fun e w' => ∃ A c, e = .returned (.tuple #[.agg #[.bool false, .string funN, .slice A 2 c], .int .i64 0]) ∧ 2 ≤ c ∧ Tr w' (.agg #[.bool false, .string funN, .slice A 2 c]) (tFn tBool tA) ∧ Below W.heap.size W w' := by
    intro A0 c0 a W hs hc ha
    have h := inst_tr [⟨vA, tBool⟩, ⟨vB, tA⟩] _ A0 c0 a W hs hc ha (fun b hb => by
      simp only [List.mem_cons, List.not_mem_nil, or_false] at hb
      rcases hb with rfl | rfl
      · exact ⟨by unfold okS; decide, fit_tBool⟩
      · exact ⟨by unfold okS; decide, fit_tA⟩) (fit_fn fit_tA fit_tB (by decide))
    rw [al_inst] at h
    refine h.mono ?_
    rintro e w' ⟨r, rfl, ⟨A, c, rfl, hl, hC⟩, hb⟩
    exact ⟨A, c, rfl, hl, ⟨A, c, rfl, hl, hC⟩, hb⟩
  have hmat1 : ∀ a b W, Tr W a (tFn tA tA) → Tr W b (tFn tBool tBool) → Calls Try.prog 20 #[a, b, .slice none 0 0] W (MatchRes W ([⟨vA, tBool⟩], true, 0)) := by
    intro a b W ha hb
    have h := match_tr _ _ [] a b none 0 W ha hb (nilB _ _) (Nat.le_refl _) (fit_fn fit_tA fit_tA (by decide)) (fit_fn fit_tBool fit_tBool (by decide)) (fun b hb => by simp at hb) (by simp)
    rw [al_match1] at h
    exact h
  have hmat2 : ∀ a b W, Tr W a (tFn tA tA) → Tr W b (tFn tBool tB) → Calls Try.prog 20 #[a, b, .slice none 0 0] W (MatchRes W ([], false, 0)) := by
    intro a b W ha hb
    have h := match_tr _ _ [] a b none 0 W ha hb (nilB _ _) (Nat.le_refl _) (fit_fn fit_tA fit_tA (by decide)) (fit_fn fit_tBool fit_tB (by decide)) (fun b hb => by simp at hb) (by simp)
    rw [al_match2] at h
    exact h
  have hsame : ∀ a b W, Tr W a (tFn tBool tA) → Tr W b (tFn tBool tA) → Calls Try.prog 35 #[a, b] W fun e w' => e = .returned (.bool true) ∧ Below W.heap.size W w' := by
    intro a b W ha hb
    have h := same_tr _ _ a b W ha hb
    rw [cmpT_self] at h
    exact h
  obtain ⟨ks, hks⟩ := (samestrs_ev [vB, vA] (by simp)).at
  obtain ⟨kb, hkb⟩ := (samebinds_ev [⟨vA, tBool⟩] (by simp) (fun b hb => by rw [List.mem_singleton.1 hb]; decide)).at
  have hss := fun A1 c1 A2 c2 W h1 l1 h2 l2 => sequentref01_SameStrings.calls ks A1 c1 [vB, vA] A2 c2 [vB, vA] true W h1 l1 h2 l2 hks
  have hsb := fun A1 c1 A2 c2 W h1 l1 h2 l2 => sequentref01_SameBinds.calls kb A1 c1 [⟨vA, tBool⟩] A2 c2 [⟨vA, tBool⟩] true W h1 l1 h2 l2 hkb
  clear hks hkb
  have hb : Below w.heap.size w w := Below.refl _ _
  go_enter Try.func40, Try.ntmps40
  go_wp2_with (first
    | (go_at_call 43; (with_reducible refine (v_calls _ _).mono ?_); rintro e W1 ⟨rfl, hc⟩; have hM := Kd.C_below (RowB.C (lit_binds2 _ 0 (Nat.zero_le _) vA boolN vB vA false true)) hc; have hc := below_step (below_one _) hc; have hb := below_step hb hc; (try have hL := Kd.C_below hL hc); (try have hT := hT.later hc); (try have hS := hS.later hc); (try have hQ := Kd.C_below hQ hc); (try have hR := hR.later hc); (try have BR := blk_below BR hc); (try (have bx := box3s BR; obtain ⟨x0, x1, x2, x3, x4, x5, x6⟩ := bx)))
    | (go_at_call 43; (with_reducible refine (v_calls _ _).mono ?_); rintro e W1 ⟨rfl, hc⟩; have hb := below_step hb hc; (try have hL := Kd.C_below hL hc); (try have hT := hT.later hc); (try have hS := hS.later hc); (try have hM := Kd.C_below hM hc); (try have hQ := Kd.C_below hQ hc); (try have hR := hR.later hc); (try have BR := blk_below BR hc); (try (have bx := box3s BR; obtain ⟨x0, x1, x2, x3, x4, x5, x6⟩ := bx)))
    | (go_at_call 38; (with_reducible refine (bool_calls _).mono ?_); rintro e W1 ⟨rfl, hc⟩; have hb := below_step hb hc; (try have hL := Kd.C_below hL hc); (try have hT := hT.later hc); (try have hS := hS.later hc); (try have hM := Kd.C_below hM hc); (try have hQ := Kd.C_below hQ hc); (try have hR := hR.later hc); (try have BR := blk_below BR hc); (try (have bx := box3s BR; obtain ⟨x0, x1, x2, x3, x4, x5, x6⟩ := bx)))
    | (go_at_call 36; refine (hfun _ _ _ _ _ (by first | exact Tr.leaf _ _ _ | exact hT | exact hS) (by first | exact Tr.leaf _ _ _ | exact hT | exact hS) (by decide)).mono ?_; rintro e W1 ⟨r, rfl, hN, hc⟩; have hb := below_step hb hc; (try have hL := Kd.C_below hL hc); (try have hT := hT.later hc); (try have hS := hS.later hc); (try have hM := Kd.C_below hM hc); (try have hQ := Kd.C_below hQ hc); (try have hR := hR.later hc); (try have BR := blk_below BR hc); (try (have bx := box3s BR; obtain ⟨x0, x1, x2, x3, x4, x5, x6⟩ := bx)); (try have hS := hT); have hT := hN; clear hN)
    | (go_at_call 23; refine (hvars _ _ hT).mono ?_; rintro e W1 ⟨A1, c1, rfl, hl1, hN, hc⟩; have hb := below_step hb hc; (try have hL := Kd.C_below hL hc); (try have hT := hT.later hc); (try have hS := hS.later hc); (try have hM := Kd.C_below hM hc); (try have hQ := Kd.C_below hQ hc); (try have hR := hR.later hc); (try have BR := blk_below BR hc); (try (have bx := box3s BR; obtain ⟨x0, x1, x2, x3, x4, x5, x6⟩ := bx)); have hL := hN)
    | (go_at_call 16; refine (hinst _ _ _ _ hM (by omega) hT).mono ?_; rintro e Wt ⟨A3, c3, rfl, hl3, hN, hc⟩; have hb := below_step hb hc; (try have hL := Kd.C_below hL hc); (try have hT := hT.later hc); (try have hS := hS.later hc); (try have hM := Kd.C_below hM hc); (try have hQ := Kd.C_below hQ hc); (try have hR := hR.later hc); (try have BR := blk_below BR hc); (try (have bx := box3s BR; obtain ⟨x0, x1, x2, x3, x4, x5, x6⟩ := bx)); have hc := below_one (w := Wt) (.cells #[.bool false, .string funN, .slice A3 2 c3] 25); have hb := below_step hb hc; have hL := Kd.C_below hL hc; have hR := hN.later hc; have BR := blk_new Wt (.cells #[.bool false, .string funN, .slice A3 2 c3] 25))
    | (go_at_call 20; refine (hmat1 _ _ _ hS hT).mono ?_; rintro e W1 ⟨A2, c2, rfl, hl2, hN, hc⟩; dsimp only at hl2 hN; have hb := below_step hb hc; (try have hL := Kd.C_below hL hc); (try have hT := hT.later hc); (try have hS := hS.later hc); (try have hM := Kd.C_below hM hc); (try have hR := hR.later hc); (try have hQ := Kd.C_below hQ hc); (try have BR := blk_below BR hc); (try (have bx := box3s BR; obtain ⟨x0, x1, x2, x3, x4, x5, x6⟩ := bx)); have hQ := hN; have hlq := hl2)
    | (go_at_call 20; refine (hmat2 _ _ _ hS hT).mono ?_; rintro e W1 ⟨A4, c4, rfl, _, _, hc⟩; have hb := below_step hb hc; (try have hL := Kd.C_below hL hc); (try have hT := hT.later hc); (try have hS := hS.later hc); (try have hM := Kd.C_below hM hc); (try have hQ := Kd.C_below hQ hc); (try have hR := hR.later hc); (try have BR := blk_below BR hc); (try (have bx := box3s BR; obtain ⟨x0, x1, x2, x3, x4, x5, x6⟩ := bx))))
  have hc := below_drew1 (Below.refl W1.heap.size W1)
  have hb := below_step hb hc
  have hL := Kd.C_below hL hc
  have hQ := Kd.C_below hQ hc
  have hR := hR.later hc
  have BR := blk_below BR hc
  obtain ⟨x0, x1, x2, x3, x4, x5, x6⟩ := box3s BR
  have hK0 : AlS w Wt.heap.size A3 c3 W1.drew := ⟨x0, x1, x2, hb⟩
  clear hfun hvars hinst hmat1 hmat2 hT hS hN hM
  go_region_held3 (fun W => AlS w Wt.heap.size A3 c3 W)
    (first | (with_reducible exact hK0) | (with_reducible assumption) | (with_reducible exact AlS.step (by with_reducible assumption) (below_one _)))
    (first
      | (go_at_call 43; (with_reducible refine (v_calls _ _).mono ?_); rintro e W1 ⟨rfl, hc⟩; have hb := below_step hb hc; (try have hL := Kd.C_below hL hc); (try have hT := hT.later hc); (try have hS := hS.later hc); (try have hQ := Kd.C_below hQ hc); (try have hR := hR.later hc); (try have BR := blk_below BR hc); (try (have bx := box3s BR; obtain ⟨x0, x1, x2, x3, x4, x5, x6⟩ := bx)); have hK : AlS w Wt.heap.size A3 c3 W1 := ⟨x0, x1, x2, hb⟩)
      | (go_at_call 38; (with_reducible refine (bool_calls _).mono ?_); rintro e W1 ⟨rfl, hc⟩; have hb := below_step hb hc; (try have hL := Kd.C_below hL hc); (try have hT := hT.later hc); (try have hS := hS.later hc); (try have hQ := Kd.C_below hQ hc); (try have hR := hR.later hc); (try have BR := blk_below BR hc); (try (have bx := box3s BR; obtain ⟨x0, x1, x2, x3, x4, x5, x6⟩ := bx)); have hK : AlS w Wt.heap.size A3 c3 W1 := ⟨x0, x1, x2, hb⟩)
      | (go_at_call 36; refine (hfun2 _ _ _ _ _ (by first | exact Tr.leaf _ _ _ | exact hT) (by first | exact Tr.leaf _ _ _ | exact hT) (by decide)).mono ?_; rintro e W1 ⟨r, rfl, hN, hc⟩; have hb := below_step hb hc; (try have hL := Kd.C_below hL hc); (try have hT := hT.later hc); (try have hS := hS.later hc); (try have hQ := Kd.C_below hQ hc); (try have hR := hR.later hc); (try have BR := blk_below BR hc); (try (have bx := box3s BR; obtain ⟨x0, x1, x2, x3, x4, x5, x6⟩ := bx)); have hT := hN; have hK : AlS w Wt.heap.size A3 c3 W1 := ⟨x0, x1, x2, hb⟩)
      | (go_at_call 32; refine (hss _ _ _ _ _ (Kd.C_below hL (below_one _)) hl1 (lit_strs2 _ _ _) (Nat.le_refl _)).mono ?_; rintro e W1 ⟨rfl, hd⟩; have hc := below_step (below_one _) hd.below; have hb := below_step hb hc; (try have hL := Kd.C_below hL hc); (try have hT := hT.later hc); (try have hS := hS.later hc); (try have hQ := Kd.C_below hQ hc); (try have hR := hR.later hc); (try have BR := blk_below BR hc); (try (have bx := box3s BR; obtain ⟨x0, x1, x2, x3, x4, x5, x6⟩ := bx)); have hK : AlS w Wt.heap.size A3 c3 W1 := ⟨x0, x1, x2, hb⟩)
      | (go_at_call 35; refine (hsame _ _ _ hR hT).mono ?_; rintro e W1 ⟨rfl, hc⟩; have hb := below_step hb hc; (try have hL := Kd.C_below hL hc); (try have hT := hT.later hc); (try have hS := hS.later hc); (try have hQ := Kd.C_below hQ hc); (try have hR := hR.later hc); (try have BR := blk_below BR hc); (try (have bx := box3s BR; obtain ⟨x0, x1, x2, x3, x4, x5, x6⟩ := bx)); have hK : AlS w Wt.heap.size A3 c3 W1 := ⟨x0, x1, x2, hb⟩)
      | (go_at_call 22; refine (hsb _ _ _ _ _ (Kd.C_below hQ (below_one _)) hlq (RowB.C (lit_binds1 _ 0 (Nat.zero_le _) vA boolN false)) (Nat.le_refl _)).mono ?_; rintro e W1 ⟨rfl, hc⟩; have hc := below_step (below_one _) hc; have hb := below_step hb hc; (try have hL := Kd.C_below hL hc); (try have hT := hT.later hc); (try have hS := hS.later hc); (try have hQ := Kd.C_below hQ hc); (try have hR := hR.later hc); (try have BR := blk_below BR hc); (try (have bx := box3s BR; obtain ⟨x0, x1, x2, x3, x4, x5, x6⟩ := bx)); have hK : AlS w Wt.heap.size A3 c3 W1 := ⟨x0, x1, x2, hb⟩))
  clear hfun2 hss hsb hsame hR hL hQ hT hK0
  go_wp2
  go_ret
  exact ⟨rfl, hb⟩
end Go.Proofs.Ytgnklkmifcmlhaa.Q
