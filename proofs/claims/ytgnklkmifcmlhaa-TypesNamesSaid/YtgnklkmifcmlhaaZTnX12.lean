/- Proved here: parts of the proof of a given statement (HRowTypesNames): contracts of the functions that it reaches, what they answer, and in the last text the statement itself. Conditions: those that each theorem names. -/
import Derived.Test.YtgnklkmifcmlhaaZTnX10
import Derived.Test.YtgnklkmifcmlhaaZTnX7
import Derived.Test.YtgnklkmifcmlhaaZTnX6
import Derived.Test.YtgnklkmifcmlhaaZTnX11
/- Proved here: the walk of the law TypesNames. Conditions: those that each theorem names. -/
namespace Go.Proofs.Ytgnklkmifcmlhaa.Q
open Go.RowKit Go.Shelf Go.Proofs.YtgnklkmifcmlhaaW.PrintWords Go.Proofs.YtgnklkmifcmlhaaW.PrintMore
set_option linter.unusedVariables false
set_option linter.unusedSimpArgs false
attribute [local go_sem] Oper.semAt_some

theorem C_one {W : World} {g : Nat} {x : S25} {A : Option Addr} {c : Nat} (hB : W.heap[g]? = some (.cells #[.bool x.f0, .string x.f1, .slice A x.f2.length c] 25 (0, 0))) (hl : x.f2.length ≤ c) (hC : k25.C W A x.f2.length x.f2) : k25.C W (some ⟨g, 0, none⟩) 1 [x] :=
  ⟨rfl, by simp, fun _ => ⟨_, rfl, fun j p hj => by
    match j, hj with
    | 0, hj =>
      simp only [List.getElem?_cons_zero, Option.some.injEq] at hj
      subst hj
      refine ⟨[.bool x.f0, .string x.f1, .slice A x.f2.length c], rfl, k25_mk W x hl hC, fun i u hu => ?_⟩
      show W.cell? (Addr.add ⟨g, 0, none⟩ (0 * 3 + i)) = some u
      rw [add_zero_spot, blk_cell hB]
      match i, hu with
      | 0, hu => exact hu
      | 1, hu => exact hu
      | 2, hu => exact hu
      | i + 3, hu => simp at hu
    | j + 1, hj => simp at hj⟩⟩
theorem Tr.one {W : World} {b : Bool} {n m : ByteArray} {v : Bool} {s : Value} {x : S25} (h : Tr W (.agg #[.bool v, .string n, s]) x) : Tr (W.alloc (.cells #[.bool v, .string n, s] 25)) (.agg #[.bool b, .string m, .slice (some ⟨W.heap.size, 0, none⟩) 1 1]) ⟨b, m, [x]⟩ := by
  obtain ⟨A, c, he, hl, hC⟩ := h
  simp only [Value.agg.injEq] at he
  have hB := blk_new W (.cells #[.bool v, .string n, s] 25)
  rw [he] at hB
  rw [he]
  exact ⟨_, 1, rfl, Nat.le_refl _, C_one hB hl (Kd.C_below hC (below_one _))⟩
theorem F_one {W W1 : World} {g : Nat} {x : S25} {A : Option Addr} {c : Nat} (h : Kd.F k25 W (fun k => g < k) A x.f2.length x.f2) (hl : x.f2.length ≤ c) (hg : g < W.heap.size) (hm : ∀ k, g < k → k < W.heap.size → W1.heap[k]? = W.heap[k]?)
    (hB : W1.heap[W.heap.size]? = some (.cells #[.bool x.f0, .string x.f1, .slice A x.f2.length c] 25 (0, 0))) : Kd.F k25 W1 (fun k => g < k) (some ⟨W.heap.size, 0, none⟩) 1 [x] := fun W2 hW => by
  have hlt := blk_lt hB
  exact C_one ((hW _ hg hlt).trans hB) hl (h W2 (fun k hk hkl => (hW k hk (by omega)).trans (hm k hk hkl)))
theorem C_bind1 {W : World} {n m : ByteArray} {v : Bool} {x : S25} {s : Value} (h : Tr W (.agg #[.bool v, .string m, s]) x) : k59.C (W.alloc (.cells #[.string n, .bool v, .string m, s] 59)) (some ⟨W.heap.size, 0, none⟩) 1 [⟨n, x⟩] := by
  obtain ⟨A, c, he, hl, hC⟩ := h
  have hB := blk_new W (.cells #[.string n, .bool v, .string m, s] 59)
  simp only [Value.agg.injEq, Array.mk.injEq, List.cons.injEq, Value.bool.injEq, Value.string.injEq, and_true] at he
  obtain ⟨rfl, rfl, rfl⟩ := he
  refine ⟨rfl, by simp, fun _ => ⟨_, rfl, fun j p hj => ?_⟩⟩
  match j, hj with
  | 0, hj =>
    simp only [List.getElem?_cons_zero, Option.some.injEq] at hj
    subst hj
    refine ⟨[.string n, .bool x.f0, .string x.f1, .slice A x.f2.length c], rfl, k59_mk _ ⟨n, x⟩ hl (Kd.C_below hC (below_one _)), fun i u hu => ?_⟩
    show World.cell? _ (Addr.add ⟨W.heap.size, 0, none⟩ (0 * 4 + i)) = some u
    rw [add_zero_spot, blk_cell hB]
    match i, hu with
    | 0, hu => exact hu
    | 1, hu => exact hu
    | 2, hu => exact hu
    | 3, hu => exact hu
    | i + 4, hu => simp at hu
  | j + 1, hj => simp at hj
theorem C_bindB {W : World} {g : Nat} {n m : ByteArray} {v : Bool} {x : S25} {s : Value} (hB : W.heap[g]? = some (.cells #[.string n, .bool v, .string m, s] 59 (0, 0))) (h : Tr W (.agg #[.bool v, .string m, s]) x) : k59.C W (some ⟨g, 0, none⟩) 1 [⟨n, x⟩] := by
  obtain ⟨A, c, he, hl, hC⟩ := h
  simp only [Value.agg.injEq, Array.mk.injEq, List.cons.injEq, Value.bool.injEq, Value.string.injEq, and_true] at he
  obtain ⟨rfl, rfl, rfl⟩ := he
  refine ⟨rfl, by simp, fun _ => ⟨_, rfl, fun j p hj => ?_⟩⟩
  match j, hj with
  | 0, hj =>
    simp only [List.getElem?_cons_zero, Option.some.injEq] at hj
    subst hj
    refine ⟨[.string n, .bool x.f0, .string x.f1, .slice A x.f2.length c], rfl, k59_mk _ ⟨n, x⟩ hl hC, fun i u hu => ?_⟩
    show World.cell? _ (Addr.add ⟨g, 0, none⟩ (0 * 4 + i)) = some u
    rw [add_zero_spot, blk_cell hB]
    match i, hu with
    | 0, hu => exact hu
    | 1, hu => exact hu
    | 2, hu => exact hu
    | 3, hu => exact hu
    | i + 4, hu => simp at hu
  | j + 1, hj => simp at hj
theorem C_zeros {W : World} {g : Nat} (hB : W.heap[g]? = some (.cells (madeCells #[.bool false, .string ⟨#[]⟩, .slice none 0 0] (9 * 3)) 25 (0, 0))) : k25.C W (some ⟨g, 0, none⟩) 9 [zT, zT, zT, zT, zT, zT, zT, zT, zT] :=
  ⟨rfl, by simp, fun _ => ⟨_, rfl, fun j p hj => by
    have hp : p = zT ∧ j < 9 := by
      have hjl := (List.getElem?_eq_some_iff.1 hj).1
      simp at hjl
      refine ⟨?_, hjl⟩
      have := List.mem_of_getElem? hj
      simpa using this
    obtain ⟨rfl, hj9⟩ := hp
    refine ⟨[.bool false, .string ⟨#[]⟩, .slice none 0 0], rfl, k25_mk W zT (Nat.le_refl _) (nilC _ _), fun i u hu => ?_⟩
    show W.cell? (Addr.add ⟨g, 0, none⟩ (j * 3 + i)) = some u
    rw [add_zero_spot, blk_cell hB]
    rcases (by omega : j = 0 ∨ j = 1 ∨ j = 2 ∨ j = 3 ∨ j = 4 ∨ j = 5 ∨ j = 6 ∨ j = 7 ∨ j = 8) with rfl | rfl | rfl | rfl | rfl | rfl | rfl | rfl | rfl
    all_goals
      match i, hu with
      | 0, hu => refine Eq.trans ?_ hu; kernel_rfl
      | 1, hu => refine Eq.trans ?_ hu; kernel_rfl
      | 2, hu => refine Eq.trans ?_ hu; kernel_rfl
      | i + 3, hu => simp at hu⟩⟩
set_option maxHeartbeats 2000000 in
set_option maxRecDepth 100000 in
theorem bad_calls (a : Value) (x : S25) (w : World) (ha : Tr w a x) (hf : fit x) (hx : chkB x = false) : Calls Try.prog 42 #[a] w fun e w' => e = .returned (.bool true) ∧ Below w.heap.size w w' := by
  obtain ⟨A, c, rfl, hl, hC⟩ := ha
  obtain ⟨k, hk⟩ := (check_ev x hf).at
  rw [hx, if_neg (by simp)] at hk
  have h28 := fun W (hw : Below w.heap.size w W) => types_Check.calls k x.f0 x.f1 A c x.f2 _ W (Kd.C_below hC hw) hl hk
  have hb0 := below_one (w := w) (.cells #[.bool x.f0, .string x.f1, .slice A x.f2.length c] 25)
  obtain ⟨x0, x1, x2, x3, x4, x5, x6⟩ := box3s (blk_new w (.cells #[.bool x.f0, .string x.f1, .slice A x.f2.length c] 25))
  clear hk hx hf hC
  go_enter Try.func42, Try.ntmps42
  go_wp2_with (go_at_call 28; (with_reducible refine (h28 _ hb0).mono ?_); rintro e W1 ⟨rfl, hc⟩)
  go_ret
  exact ⟨rfl, below_step hb0 hc⟩
theorem good_calls (a : Value) (x : S25) (w : World) (ha : Tr w a x) (hx : chkB x = true) : Calls Try.prog 28 #[a] w fun e w' => e = .returned (.int .i64 0) ∧ Below w.heap.size w w' := by
  obtain ⟨A, c, rfl, hl, hC⟩ := ha
  obtain ⟨k, hk⟩ := (check_ev x (chkB_fit hx)).at
  rw [hx, if_pos rfl] at hk
  exact types_Check.calls k x.f0 x.f1 A c x.f2 _ w hC hl hk
def deepT : Nat → S25
  | 0 => tBool
  | k + 1 => ⟨false, ⟨#[116]⟩, [deepT k]⟩
theorem deepT_f0 (k : Nat) : (deepT k).f0 = false := by cases k <;> rfl
set_option maxRecDepth 100000 in
theorem deep_ok : chkB (deepT 199) = true := by kernel_rfl
set_option maxRecDepth 100000 in
theorem deep_bad : chkB (tFn (deepT 199) (deepT 199)) = false := by kernel_rfl
set_option maxRecDepth 100000 in
theorem deep_fit : fitD (tFn (deepT 199) (deepT 199)) = true := by kernel_rfl
set_option maxRecDepth 100000 in
theorem deep_big : instF [⟨vA, deepT 199⟩] (tFn tA tA) = (zT, 21) := by kernel_rfl
set_option maxRecDepth 100000 in
theorem nm_inst : instF [⟨⟨#[97]⟩, tBool⟩] tBool = (zT, 10) := by kernel_rfl
set_option maxRecDepth 100000 in
theorem nm_match : matchF tA tBool [⟨vA, tA⟩] = ([], false, 0) := by kernel_rfl
theorem Tr.nine (W : World) (b : Bool) (m : ByteArray) : Tr (W.alloc (.cells (madeCells #[.bool false, .string ⟨#[]⟩, .slice none 0 0] (9 * 3)) 25)) (.agg #[.bool b, .string m, .slice (some ⟨W.heap.size, 0, none⟩) 9 9]) ⟨b, m, [zT, zT, zT, zT, zT, zT, zT, zT, zT]⟩ :=
  ⟨_, 9, rfl, Nat.le_refl _, C_zeros (blk_new W _)⟩
def DpS (w : World) (g kk : Nat) (W : World) : Prop := ∃ A c, W.heap[g]? = some (.cells #[.bool false, .string (deepT kk).f1, .slice A (deepT kk).f2.length c] 25 (0, 0)) ∧ (deepT kk).f2.length ≤ c ∧ Kd.F k25 W (fun k => g < k) A (deepT kk).f2.length (deepT kk).f2 ∧ Below w.heap.size w W
theorem DpS.next {w W : World} {g kk : Nat} {A : Option Addr} {c : Nat} (hg : w.heap.size ≤ g) (hB : W.heap[g]? = some (.cells #[.bool false, .string (deepT kk).f1, .slice A (deepT kk).f2.length c] 25 (0, 0))) (hl : (deepT kk).f2.length ≤ c) (hF : Kd.F k25 W (fun k => g < k) A (deepT kk).f2.length (deepT kk).f2) (hb : Below w.heap.size w W) :
    DpS w g (kk + 1) ((((W.setCell ⟨g, 0, none⟩ (.bool false)).setCell ⟨g, 1, none⟩ (.string ⟨#[116]⟩)).setCell ⟨g, 2, none⟩ (.slice (some ⟨W.heap.size, 0, none⟩) 1 1)).alloc (.cells #[.bool false, .string (deepT kk).f1, .slice A (deepT kk).f2.length c] 25)) := by
  have hlt := blk_lt hB
  obtain ⟨X, hX⟩ : ∃ X, ((W.setCell ⟨g, 0, none⟩ (.bool false)).setCell ⟨g, 1, none⟩ (.string ⟨#[116]⟩)).setCell ⟨g, 2, none⟩ (.slice (some ⟨W.heap.size, 0, none⟩) 1 1) = X := ⟨_, rfl⟩
  have hXs : X.heap.size = W.heap.size := by rw [← hX]; simp
  have hXg : X.heap[g]? = some (.cells #[.bool false, .string ⟨#[116]⟩, .slice (some ⟨W.heap.size, 0, none⟩) 1 1] 25 (0, 0)) := by rw [← hX]; exact set3 hB
  have hXb : Below w.heap.size w X := by rw [← hX]; exact ((hb.setCell hg _).setCell hg _).setCell hg _
  have hfar : ∀ k, k ≠ g → X.heap[k]? = W.heap[k]? := fun k hk => by
    rw [← hX, Below.heap_setCell _ _ _ k hk, Below.heap_setCell _ _ _ k hk, Below.heap_setCell _ _ _ k hk]
  rw [hX]
  have hnew := blk_new X (.cells #[.bool false, .string (deepT kk).f1, .slice A (deepT kk).f2.length c] 25)
  rw [hXs] at hnew
  refine ⟨some ⟨W.heap.size, 0, none⟩, 1, blk_alloc hXg _, by simp [deepT], ?_, hXb.alloc hXb.size _⟩
  refine F_one hF hl hlt (fun k hk hkl => ((below_one (w := X) _).block k (by omega)).trans (hfar k (by omega))) ?_
  rw [deepT_f0]
  exact hnew
abbrev NmS (wr : World) (g : Nat) (dp : S25) (A : Option Addr) (c : Nat) (W : World) : Prop :=
  W.cell? ⟨g, 0, none⟩ = some (.bool false) ∧ W.cell? ⟨g, 1, none⟩ = some (.string dp.f1) ∧ W.cell? ⟨g, 2, none⟩ = some (.slice A dp.f2.length c) ∧ g < W.heap.size ∧ wr.heap.size ≤ W.heap.size ∧ Below wr.heap.size wr W
theorem NmS.mk {wr : World} {g : Nat} {dp : S25} {A : Option Addr} {c : Nat} (h : NmS wr g dp A c wr) {W : World} (hb : Below wr.heap.size wr W) : NmS wr g dp A c W :=
  ⟨pw_cell_below hb h.1, pw_cell_below hb h.2.1, pw_cell_below hb h.2.2.1, Nat.lt_of_lt_of_le h.2.2.2.1 hb.size, hb.size, hb⟩
theorem NmS.below {wr : World} {g : Nat} {dp : S25} {A : Option Addr} {c : Nat} {W : World} (h : NmS wr g dp A c W) : Below wr.heap.size wr W := h.2.2.2.2.2
theorem NmS.step {wr : World} {g : Nat} {dp : S25} {A : Option Addr} {c : Nat} (h0 : NmS wr g dp A c wr) {W W' : World} (h : NmS wr g dp A c W) (hb : Below W.heap.size W W') : NmS wr g dp A c W' := h0.mk (below_step h.below hb)
theorem NmS.put {wr : World} {g : Nat} {dp : S25} {A : Option Addr} {c : Nat} (h0 : NmS wr g dp A c wr) {W : World} (h : NmS wr g dp A c W) (B : Nat) (hB : wr.heap.size ≤ B) (p q r : Value) : NmS wr g dp A c (((W.setCell ⟨B, 0, none⟩ p).setCell ⟨B, 1, none⟩ q).setCell ⟨B, 2, none⟩ r) := h0.mk (((h.below.setCell hB _).setCell hB _).setCell hB _)
set_option maxHeartbeats 4000000 in
set_option maxRecDepth 100000 in
theorem law_names (w : World) : Calls Try.prog 10 #[] w fun e w' => e = .returned (.bool true) ∧ Below w.heap.size w w' := by
  have hbad := bad_calls
  have hmk : ∀ W : World, (Instr.makeSlice 23 (.int .i64 9) (.int .i64 9)).run Try.prog W = .ok (.slice (some ⟨W.heap.size, 0, none⟩) 9 9) (W.alloc (.cells (madeCells #[.bool false, .string ⟨#[]⟩, .slice none 0 0] (9 * 3)) 25)) := fun W => run_mkT W 9 (by omega)
  have hb : Below w.heap.size w w := Below.refl _ _
  go_enter Try.func10, Try.ntmps10
  go_wp2_with (first
    | (go_at_call 38; (with_reducible refine (bool_calls _).mono ?_); rintro e W1 ⟨rfl, hc⟩; have hb := below_step hb hc)
    | (go_at_call 43; (with_reducible refine (v_calls _ _).mono ?_); rintro e W1 ⟨rfl, hc⟩; have hb := below_step hb hc)
    | (go_at_call 42; refine (hbad _ _ _ (by first | exact Tr.leaf _ _ _ | exact Tr.one (Tr.leaf _ _ _) | exact Tr.nine _ _ _) ((fitD_iff _).1 (by decide +kernel)) (by decide +kernel)).mono ?_; rintro e W1 ⟨rfl, hc⟩; have hb := (by first | exact below_step hb hc | exact below_step hb (below_step (below_one _) hc))))
  have hb2 := below_step hb (below_one (w := W1) (.cells #[.bool false, .string boolN, .slice none 0 0] 25))
  have hD2 : DpS w W1.heap.size 0 (W1.alloc (.cells #[.bool false, .string boolN, .slice none 0 0] 25)) := ⟨none, 0, blk_new W1 _, Nat.le_refl _, fun W' _ => nilC _ _, hb2⟩
  have hg := hb.size
  obtain ⟨W2, hW2⟩ : ∃ W2, W1.alloc (.cells #[.bool false, .string boolN, .slice none 0 0] 25) = W2 := ⟨_, rfl⟩
  rw [hW2] at hD2
  rw [hW2]
  clear hW2 hb hb2 hc
  obtain ⟨g, hgg⟩ : ∃ g, W1.heap.size = g := ⟨_, rfl⟩
  rw [hgg] at hD2 hg
  rw [hgg]
  clear hgg
  go_loopg [4] 199 (fun gg v4 wr => ∃ kk : Nat, kk ≤ 199 ∧ gg + kk = 199 ∧ v4 = .int .i64 (kk : Int) ∧ Aside0 (DpS w g kk wr))
  case atStart => exact ⟨0, by omega, by omega, rfl, ⟨hD2⟩⟩
  case round =>
    obtain ⟨kk, hk1, hk2, rfl, HD⟩ := hrel
    obtain ⟨A, c, hB, hl, hF, hb⟩ := HD.out
    obtain ⟨x0, x1, x2, x3, x4, x5, x6⟩ := box3s hB
    by_cases hkk : kk < 199
    · have HN := Aside0.mk (DpS.next hg hB hl hF hb)
      have HB := Aside0.mk hB
      clear hB hl hF hb HD hD2
      go_wp2
      go_roundg (199 - kk - 1)
      all_goals (first | omega | exact ⟨kk + 1, by omega, by omega, by simp <;> (unfold wrap64; omega), HN⟩)
    · obtain rfl : kk = 199 := by omega
      have hTd : Tr wr (.agg #[.bool false, .string (deepT 199).f1, .slice A (deepT 199).f2.length c]) (deepT 199) := ⟨A, c, rfl, hl, Kd.F_now hF⟩
      have hS0 : NmS wr g (deepT 199) A c wr := ⟨x0, x1, x2, x6, Nat.le_refl _, Below.refl _ _⟩
      have hok := deep_ok
      have hbg := deep_big
      have hdb := deep_bad
      have hdf := deep_fit
      have HTD := Aside0.mk hTd
      have HBW := Aside0.mk hb
      clear HD hD2 hF hB hTd hb x3 x4 x5 x6
      generalize deepT 199 = dp at *
      have hI1 : ∀ A2 c2 a W, k59.C W A2 1 [⟨vA, dp⟩] → 1 ≤ c2 → Tr W a (tFn tA tA) → Calls Try.prog 16 #[.slice A2 1 c2, a] W fun e w' => ∃ A3 c3, e = .returned (.tuple #[.agg #[.bool false, .string ⟨#[]⟩, .slice A3 0 c3], .int .i64 21]) ∧ Below W.heap.size W w' := fun A2 c2 a W hC hl ha => by
        have h := inst_tr [⟨vA, dp⟩] (tFn tA tA) A2 c2 a W hC hl ha (fun b hb => by rw [List.mem_singleton.1 hb]; exact ⟨show vA.size ≤ 4611686018427387904 by decide, chkB_fit hok⟩) (fit_fn fit_tA fit_tA (by decide))
        rw [hbg] at h
        refine h.mono ?_
        rintro e w' ⟨r, rfl, ⟨A3, c3, rfl, _, _⟩, hb⟩
        exact ⟨A3, c3, rfl, hb⟩
      have hfun := fun x y a b W (ha : Tr W a x) (hb : Tr W b y) (h : szT x + szT y ≤ 1000) => fun_tr x y a b W ha hb (by omega) (by omega)
      go_upto_region 9 with (fail)
      go_cut [6] (fun v6 wc => v6 = .int .i64 21 ∧ Aside0 (NmS wr g dp A c wc))
      case first =>
        have hSd := hS0.step hS0 (below_drew1 (Below.refl _ _))
        have hN := hS0
        go_region_held3 (fun W => NmS wr g dp A c W)
          (first | (with_reducible exact hSd) | (with_reducible assumption) | (with_reducible exact hS0.step (by with_reducible assumption) (below_one _)) | (with_reducible exact hS0.put (by with_reducible assumption) _ (by first | assumption | omega) _ _ _))
          (first
            | (go_at_call 16; refine (hI1 _ _ _ _ (C_bindB (by first | exact BR | exact blk_below BR (below_one _) | exact blk_below BR (below_two _ _) | exact blk_new _ _ | exact blk_mid _ _ | exact blk_top _ _) (HTD.out.later (below_step hN.below (by first | exact Below.refl _ _ | exact below_one _ | exact below_two _ _ | exact below_drew1 (Below.refl _ _) | exact below_drew1 (below_one _) | exact below_drew1 (below_two _ _))))) (by omega) (by first | exact hT | exact hT.later (below_one _) | exact hT.later (below_two _ _))).mono ?_; rintro e W2 ⟨A3, c3, rfl, hc⟩; (first | have BR := blk_below (blk_mid (.cells #[.string ⟨#[39, 97]⟩, .bool false, .string dp.f1, .slice A dp.f2.length c] 59) (.cells #[.bool false, .string ⟨#[]⟩, .slice none 0 0] 25)) hc | have BR := blk_below (blk_top (.cells #[.bool false, .string ⟨#[]⟩, .slice none 0 0] 25) (.cells #[.string ⟨#[39, 97]⟩, .bool false, .string dp.f1, .slice A dp.f2.length c] 59)) hc | have BR := blk_below (blk_below (blk_mid (.cells #[.string ⟨#[39, 97]⟩, .bool false, .string dp.f1, .slice A dp.f2.length c] 59) (.cells #[.bool false, .string ⟨#[]⟩, .slice none 0 0] 25)) (below_drew1 (Below.refl _ _))) hc | have BR := blk_below (blk_below (blk_top (.cells #[.bool false, .string ⟨#[]⟩, .slice none 0 0] 25) (.cells #[.string ⟨#[39, 97]⟩, .bool false, .string dp.f1, .slice A dp.f2.length c] 59)) (below_drew1 (Below.refl _ _))) hc | have BR := blk_below (blk_new _ (.cells #[.string ⟨#[39, 97]⟩, .bool false, .string dp.f1, .slice A dp.f2.length c] 59)) hc | have BR := blk_below (blk_below (blk_new _ (.cells #[.string ⟨#[39, 97]⟩, .bool false, .string dp.f1, .slice A dp.f2.length c] 59)) (below_drew1 (Below.refl _ _))) hc | have BR := blk_below BR (below_step (by first | exact Below.refl _ _ | exact below_one _ | exact below_two _ _ | exact below_drew1 (Below.refl _ _) | exact below_drew1 (below_one _) | exact below_drew1 (below_two _ _)) hc) | skip); (first | have BX := blk_below (blk_mid (.cells #[.bool false, .string ⟨#[]⟩, .slice none 0 0] 25) (.cells #[.string ⟨#[39, 97]⟩, .bool false, .string dp.f1, .slice A dp.f2.length c] 59)) hc | have BX := blk_below (blk_top (.cells #[.string ⟨#[39, 97]⟩, .bool false, .string dp.f1, .slice A dp.f2.length c] 59) (.cells #[.bool false, .string ⟨#[]⟩, .slice none 0 0] 25)) hc | have BX := blk_below (blk_below (blk_mid (.cells #[.bool false, .string ⟨#[]⟩, .slice none 0 0] 25) (.cells #[.string ⟨#[39, 97]⟩, .bool false, .string dp.f1, .slice A dp.f2.length c] 59)) (below_drew1 (Below.refl _ _))) hc | have BX := blk_below (blk_below (blk_top (.cells #[.string ⟨#[39, 97]⟩, .bool false, .string dp.f1, .slice A dp.f2.length c] 59) (.cells #[.bool false, .string ⟨#[]⟩, .slice none 0 0] 25)) (below_drew1 (Below.refl _ _))) hc | have BX := blk_below (blk_new _ (.cells #[.bool false, .string ⟨#[]⟩, .slice none 0 0] 25)) hc | have BX := blk_below (blk_below (blk_new _ (.cells #[.bool false, .string ⟨#[]⟩, .slice none 0 0] 25)) (below_drew1 (Below.refl _ _))) hc | have BX := blk_below BX (below_step (by first | exact Below.refl _ _ | exact below_one _ | exact below_two _ _ | exact below_drew1 (Below.refl _ _) | exact below_drew1 (below_one _) | exact below_drew1 (below_two _ _)) hc) | skip); (try (have bx := box3s BX; obtain ⟨z0, z1, z2, z3, z4, z5, z6⟩ := bx)); (try have hT := hT.later (below_step (by first | exact Below.refl _ _ | exact below_one _ | exact below_two _ _ | exact below_drew1 (Below.refl _ _) | exact below_drew1 (below_one _) | exact below_drew1 (below_two _ _)) hc)); have hN := hS0.step hN (below_step (by first | exact Below.refl _ _ | exact below_one _ | exact below_two _ _ | exact below_drew1 (Below.refl _ _) | exact below_drew1 (below_one _) | exact below_drew1 (below_two _ _)) hc); obtain ⟨x0, x1, x2, x3, x4, x5⟩ := id hN)
            | (go_at_call 36; (with_reducible refine (hfun tA tA _ _ _ (Tr.leaf _ _ _) (Tr.leaf _ _ _) (by decide)).mono ?_); rintro e W1 ⟨r, rfl, hT', hc⟩; (first | have BR := blk_below (blk_mid (.cells #[.string ⟨#[39, 97]⟩, .bool false, .string dp.f1, .slice A dp.f2.length c] 59) (.cells #[.bool false, .string ⟨#[]⟩, .slice none 0 0] 25)) hc | have BR := blk_below (blk_top (.cells #[.bool false, .string ⟨#[]⟩, .slice none 0 0] 25) (.cells #[.string ⟨#[39, 97]⟩, .bool false, .string dp.f1, .slice A dp.f2.length c] 59)) hc | have BR := blk_below (blk_below (blk_mid (.cells #[.string ⟨#[39, 97]⟩, .bool false, .string dp.f1, .slice A dp.f2.length c] 59) (.cells #[.bool false, .string ⟨#[]⟩, .slice none 0 0] 25)) (below_drew1 (Below.refl _ _))) hc | have BR := blk_below (blk_below (blk_top (.cells #[.bool false, .string ⟨#[]⟩, .slice none 0 0] 25) (.cells #[.string ⟨#[39, 97]⟩, .bool false, .string dp.f1, .slice A dp.f2.length c] 59)) (below_drew1 (Below.refl _ _))) hc | have BR := blk_below (blk_new _ (.cells #[.string ⟨#[39, 97]⟩, .bool false, .string dp.f1, .slice A dp.f2.length c] 59)) hc | have BR := blk_below (blk_below (blk_new _ (.cells #[.string ⟨#[39, 97]⟩, .bool false, .string dp.f1, .slice A dp.f2.length c] 59)) (below_drew1 (Below.refl _ _))) hc | have BR := blk_below BR (below_step (by first | exact Below.refl _ _ | exact below_one _ | exact below_two _ _ | exact below_drew1 (Below.refl _ _) | exact below_drew1 (below_one _) | exact below_drew1 (below_two _ _)) hc) | skip); (first | have BX := blk_below (blk_mid (.cells #[.bool false, .string ⟨#[]⟩, .slice none 0 0] 25) (.cells #[.string ⟨#[39, 97]⟩, .bool false, .string dp.f1, .slice A dp.f2.length c] 59)) hc | have BX := blk_below (blk_top (.cells #[.string ⟨#[39, 97]⟩, .bool false, .string dp.f1, .slice A dp.f2.length c] 59) (.cells #[.bool false, .string ⟨#[]⟩, .slice none 0 0] 25)) hc | have BX := blk_below (blk_below (blk_mid (.cells #[.bool false, .string ⟨#[]⟩, .slice none 0 0] 25) (.cells #[.string ⟨#[39, 97]⟩, .bool false, .string dp.f1, .slice A dp.f2.length c] 59)) (below_drew1 (Below.refl _ _))) hc | have BX := blk_below (blk_below (blk_top (.cells #[.string ⟨#[39, 97]⟩, .bool false, .string dp.f1, .slice A dp.f2.length c] 59) (.cells #[.bool false, .string ⟨#[]⟩, .slice none 0 0] 25)) (below_drew1 (Below.refl _ _))) hc | have BX := blk_below (blk_new _ (.cells #[.bool false, .string ⟨#[]⟩, .slice none 0 0] 25)) hc | have BX := blk_below (blk_below (blk_new _ (.cells #[.bool false, .string ⟨#[]⟩, .slice none 0 0] 25)) (below_drew1 (Below.refl _ _))) hc | have BX := blk_below BX (below_step (by first | exact Below.refl _ _ | exact below_one _ | exact below_two _ _ | exact below_drew1 (Below.refl _ _) | exact below_drew1 (below_one _) | exact below_drew1 (below_two _ _)) hc) | skip); (try (have bx := box3s BX; obtain ⟨z0, z1, z2, z3, z4, z5, z6⟩ := bx)); (try have hT := hT.later (below_step (by first | exact Below.refl _ _ | exact below_one _ | exact below_two _ _ | exact below_drew1 (Below.refl _ _) | exact below_drew1 (below_one _) | exact below_drew1 (below_two _ _)) hc)); have hN := hS0.step hN (below_step (by first | exact Below.refl _ _ | exact below_one _ | exact below_two _ _ | exact below_drew1 (Below.refl _ _) | exact below_drew1 (below_one _) | exact below_drew1 (below_two _ _)) hc); obtain ⟨x0, x1, x2, x3, x4, x5⟩ := id hN; have hT := hT')
            | (go_at_call 36; refine (hfun tA tA _ _ _ (Tr.leaf _ _ _) (Tr.leaf _ _ _) (by decide)).mono ?_; rintro e W1 ⟨r, rfl, hT', hc⟩; (first | have BR := blk_below (blk_mid (.cells #[.string ⟨#[39, 97]⟩, .bool false, .string dp.f1, .slice A dp.f2.length c] 59) (.cells #[.bool false, .string ⟨#[]⟩, .slice none 0 0] 25)) hc | have BR := blk_below (blk_top (.cells #[.bool false, .string ⟨#[]⟩, .slice none 0 0] 25) (.cells #[.string ⟨#[39, 97]⟩, .bool false, .string dp.f1, .slice A dp.f2.length c] 59)) hc | have BR := blk_below (blk_below (blk_mid (.cells #[.string ⟨#[39, 97]⟩, .bool false, .string dp.f1, .slice A dp.f2.length c] 59) (.cells #[.bool false, .string ⟨#[]⟩, .slice none 0 0] 25)) (below_drew1 (Below.refl _ _))) hc | have BR := blk_below (blk_below (blk_top (.cells #[.bool false, .string ⟨#[]⟩, .slice none 0 0] 25) (.cells #[.string ⟨#[39, 97]⟩, .bool false, .string dp.f1, .slice A dp.f2.length c] 59)) (below_drew1 (Below.refl _ _))) hc | have BR := blk_below (blk_new _ (.cells #[.string ⟨#[39, 97]⟩, .bool false, .string dp.f1, .slice A dp.f2.length c] 59)) hc | have BR := blk_below (blk_below (blk_new _ (.cells #[.string ⟨#[39, 97]⟩, .bool false, .string dp.f1, .slice A dp.f2.length c] 59)) (below_drew1 (Below.refl _ _))) hc | have BR := blk_below BR (below_step (by first | exact Below.refl _ _ | exact below_one _ | exact below_two _ _ | exact below_drew1 (Below.refl _ _) | exact below_drew1 (below_one _) | exact below_drew1 (below_two _ _)) hc) | skip); (first | have BX := blk_below (blk_mid (.cells #[.bool false, .string ⟨#[]⟩, .slice none 0 0] 25) (.cells #[.string ⟨#[39, 97]⟩, .bool false, .string dp.f1, .slice A dp.f2.length c] 59)) hc | have BX := blk_below (blk_top (.cells #[.string ⟨#[39, 97]⟩, .bool false, .string dp.f1, .slice A dp.f2.length c] 59) (.cells #[.bool false, .string ⟨#[]⟩, .slice none 0 0] 25)) hc | have BX := blk_below (blk_below (blk_mid (.cells #[.bool false, .string ⟨#[]⟩, .slice none 0 0] 25) (.cells #[.string ⟨#[39, 97]⟩, .bool false, .string dp.f1, .slice A dp.f2.length c] 59)) (below_drew1 (Below.refl _ _))) hc | have BX := blk_below (blk_below (blk_top (.cells #[.string ⟨#[39, 97]⟩, .bool false, .string dp.f1, .slice A dp.f2.length c] 59) (.cells #[.bool false, .string ⟨#[]⟩, .slice none 0 0] 25)) (below_drew1 (Below.refl _ _))) hc | have BX := blk_below (blk_new _ (.cells #[.bool false, .string ⟨#[]⟩, .slice none 0 0] 25)) hc | have BX := blk_below (blk_below (blk_new _ (.cells #[.bool false, .string ⟨#[]⟩, .slice none 0 0] 25)) (below_drew1 (Below.refl _ _))) hc | have BX := blk_below BX (below_step (by first | exact Below.refl _ _ | exact below_one _ | exact below_two _ _ | exact below_drew1 (Below.refl _ _) | exact below_drew1 (below_one _) | exact below_drew1 (below_two _ _)) hc) | skip); (try (have bx := box3s BX; obtain ⟨z0, z1, z2, z3, z4, z5, z6⟩ := bx)); (try have hT := hT.later (below_step (by first | exact Below.refl _ _ | exact below_one _ | exact below_two _ _ | exact below_drew1 (Below.refl _ _) | exact below_drew1 (below_one _) | exact below_drew1 (below_two _ _)) hc)); have hN := hS0.step hN (below_step (by first | exact Below.refl _ _ | exact below_one _ | exact below_two _ _ | exact below_drew1 (Below.refl _ _) | exact below_drew1 (below_one _) | exact below_drew1 (below_two _ _)) hc); obtain ⟨x0, x1, x2, x3, x4, x5⟩ := id hN; have hT := hT')
            | (go_at_call 43; (with_reducible refine (v_calls _ _).mono ?_); rintro e W1 ⟨rfl, hc⟩; (first | have BR := blk_below (blk_mid (.cells #[.string ⟨#[39, 97]⟩, .bool false, .string dp.f1, .slice A dp.f2.length c] 59) (.cells #[.bool false, .string ⟨#[]⟩, .slice none 0 0] 25)) hc | have BR := blk_below (blk_top (.cells #[.bool false, .string ⟨#[]⟩, .slice none 0 0] 25) (.cells #[.string ⟨#[39, 97]⟩, .bool false, .string dp.f1, .slice A dp.f2.length c] 59)) hc | have BR := blk_below (blk_below (blk_mid (.cells #[.string ⟨#[39, 97]⟩, .bool false, .string dp.f1, .slice A dp.f2.length c] 59) (.cells #[.bool false, .string ⟨#[]⟩, .slice none 0 0] 25)) (below_drew1 (Below.refl _ _))) hc | have BR := blk_below (blk_below (blk_top (.cells #[.bool false, .string ⟨#[]⟩, .slice none 0 0] 25) (.cells #[.string ⟨#[39, 97]⟩, .bool false, .string dp.f1, .slice A dp.f2.length c] 59)) (below_drew1 (Below.refl _ _))) hc | have BR := blk_below (blk_new _ (.cells #[.string ⟨#[39, 97]⟩, .bool false, .string dp.f1, .slice A dp.f2.length c] 59)) hc | have BR := blk_below (blk_below (blk_new _ (.cells #[.string ⟨#[39, 97]⟩, .bool false, .string dp.f1, .slice A dp.f2.length c] 59)) (below_drew1 (Below.refl _ _))) hc | have BR := blk_below BR (below_step (by first | exact Below.refl _ _ | exact below_one _ | exact below_two _ _ | exact below_drew1 (Below.refl _ _) | exact below_drew1 (below_one _) | exact below_drew1 (below_two _ _)) hc) | skip); (first | have BX := blk_below (blk_mid (.cells #[.bool false, .string ⟨#[]⟩, .slice none 0 0] 25) (.cells #[.string ⟨#[39, 97]⟩, .bool false, .string dp.f1, .slice A dp.f2.length c] 59)) hc | have BX := blk_below (blk_top (.cells #[.string ⟨#[39, 97]⟩, .bool false, .string dp.f1, .slice A dp.f2.length c] 59) (.cells #[.bool false, .string ⟨#[]⟩, .slice none 0 0] 25)) hc | have BX := blk_below (blk_below (blk_mid (.cells #[.bool false, .string ⟨#[]⟩, .slice none 0 0] 25) (.cells #[.string ⟨#[39, 97]⟩, .bool false, .string dp.f1, .slice A dp.f2.length c] 59)) (below_drew1 (Below.refl _ _))) hc | have BX := blk_below (blk_below (blk_top (.cells #[.string ⟨#[39, 97]⟩, .bool false, .string dp.f1, .slice A dp.f2.length c] 59) (.cells #[.bool false, .string ⟨#[]⟩, .slice none 0 0] 25)) (below_drew1 (Below.refl _ _))) hc | have BX := blk_below (blk_new _ (.cells #[.bool false, .string ⟨#[]⟩, .slice none 0 0] 25)) hc | have BX := blk_below (blk_below (blk_new _ (.cells #[.bool false, .string ⟨#[]⟩, .slice none 0 0] 25)) (below_drew1 (Below.refl _ _))) hc | have BX := blk_below BX (below_step (by first | exact Below.refl _ _ | exact below_one _ | exact below_two _ _ | exact below_drew1 (Below.refl _ _) | exact below_drew1 (below_one _) | exact below_drew1 (below_two _ _)) hc) | skip); (try (have bx := box3s BX; obtain ⟨z0, z1, z2, z3, z4, z5, z6⟩ := bx)); (try have hT := hT.later (below_step (by first | exact Below.refl _ _ | exact below_one _ | exact below_two _ _ | exact below_drew1 (Below.refl _ _) | exact below_drew1 (below_one _) | exact below_drew1 (below_two _ _)) hc)); have hN := hS0.step hN (below_step (by first | exact Below.refl _ _ | exact below_one _ | exact below_two _ _ | exact below_drew1 (Below.refl _ _) | exact below_drew1 (below_one _) | exact below_drew1 (below_two _ _)) hc); obtain ⟨x0, x1, x2, x3, x4, x5⟩ := id hN))
        all_goals go_wp2
        all_goals go_meet
        all_goals (case rel => exact ⟨rfl, ⟨by first | (with_reducible assumption) | (with_reducible exact hS0.step (by with_reducible assumption) (below_one _)) | (with_reducible exact hS0.put (by with_reducible assumption) _ (by first | assumption | omega) _ _ _)⟩⟩)
      case rest =>
        obtain ⟨rfl, HS⟩ := hcut
        have hN := HS.out
        clear HS hI1 hbg
        obtain ⟨x0, x1, x2, x3, x4, x5⟩ := id hN
        have hszd := (chkB_sh hok).2.1
        have hI2 : ∀ A2 c2 a W, k59.C W A2 1 [⟨⟨#[97]⟩, tBool⟩] → 1 ≤ c2 → Tr W a tBool → Calls Try.prog 16 #[.slice A2 1 c2, a] W fun e w' => ∃ A3 c3, e = .returned (.tuple #[.agg #[.bool false, .string ⟨#[]⟩, .slice A3 0 c3], .int .i64 10]) ∧ Below W.heap.size W w' := fun A2 c2 a W hC hl ha => by
          have h := inst_tr [⟨⟨#[97]⟩, tBool⟩] tBool A2 c2 a W hC hl ha (fun b hb => by rw [List.mem_singleton.1 hb]; exact ⟨by unfold okS; decide, fit_tBool⟩) fit_tBool
          rw [nm_inst] at h
          refine h.mono ?_
          rintro e w' ⟨r, rfl, ⟨A3, c3, rfl, _, _⟩, hb⟩
          exact ⟨A3, c3, rfl, hb⟩
        have hDF : ∀ a W, Tr W a ⟨false, funN, [tBool]⟩ → Calls Try.prog 25 #[a] W fun e w' => ∃ A3 c3 A4 c4, e = .returned (.tuple #[.agg #[.bool false, .string ⟨#[]⟩, .slice A3 0 c3], .agg #[.bool false, .string ⟨#[]⟩, .slice A4 0 c4], .bool false]) ∧ Below W.heap.size W w' := fun a W ha => by
          obtain ⟨A, c, rfl, hl, hC⟩ := ha
          refine (dest_calls ⟨false, funN, [tBool]⟩ A c W hC hl (by decide)).mono ?_
          rintro e w' ⟨v1, v2, rfl, h1, h2, hb⟩
          obtain ⟨A3, c3, rfl, _, _⟩ := h1.reads
          obtain ⟨A4, c4, rfl, _, _⟩ := h2.reads
          exact ⟨A3, c3, A4, c4, rfl, hb⟩
        have hM1 : ∀ a b W A2 c2, Tr W a tA → Tr W b tBool → k59.C W A2 1 [⟨vA, tA⟩] → 1 ≤ c2 → Calls Try.prog 20 #[a, b, .slice A2 1 c2] W fun e w' => ∃ A3 c3, e = .returned (.tuple #[.slice A3 0 c3, .bool false, .int .i64 0]) ∧ Below W.heap.size W w' := fun a b W A2 c2 ha hb hC hl => by
          have h := match_tr tA tBool [⟨vA, tA⟩] a b A2 c2 W ha hb hC hl fit_tA fit_tBool (fun b hb => by rw [List.mem_singleton.1 hb]; exact ⟨by unfold okS; decide, fit_tA⟩) (by simp)
          rw [nm_match] at h
          refine h.mono ?_
          rintro e w' ⟨A3, c3, rfl, _, _, hb⟩
          exact ⟨A3, c3, rfl, hb⟩
        have hfd : ∀ W, Tr W (.agg #[.bool false, .string dp.f1, .slice A dp.f2.length c]) dp → Calls Try.prog 36 #[.agg #[.bool false, .string dp.f1, .slice A dp.f2.length c], .agg #[.bool false, .string dp.f1, .slice A dp.f2.length c]] W (Ret W (tFn dp dp)) := fun W h => fun_tr dp dp _ _ W h h (by omega) (by omega)
        go_wp2_with (first
          | (go_at_call 38; (with_reducible refine (bool_calls _).mono ?_); rintro e W1 ⟨rfl, hc⟩; (first | have hM := Kd.C_below (C_bind1 (n := ⟨#[97]⟩) (Tr.leaf false boolN _)) hc | skip); have hN := hS0.step hN (below_step (by first | exact Below.refl _ _ | exact below_one _ | exact below_two _ _ | exact below_three _ _ _) hc); obtain ⟨x0, x1, x2, x3, x4, x5⟩ := id hN)
          | (go_at_call 16; refine (hI2 _ _ _ _ hM (by omega) (Tr.leaf _ _ _)).mono ?_; rintro e W2 ⟨A3, c3, rfl, hc⟩; have hN := hS0.step hN (below_step (by first | exact Below.refl _ _ | exact below_one _ | exact below_two _ _ | exact below_three _ _ _) hc); obtain ⟨x0, x1, x2, x3, x4, x5⟩ := id hN)
          | (go_at_call 25; refine (hDF _ _ (Tr.one (Tr.leaf _ _ _))).mono ?_; rintro e W2 ⟨A3, c3, A4, c4, rfl, hc⟩; have hN := hS0.step hN (below_step (by first | exact Below.refl _ _ | exact below_one _ | exact below_two _ _ | exact below_three _ _ _) hc); obtain ⟨x0, x1, x2, x3, x4, x5⟩ := id hN)
          | (go_at_call 43; (with_reducible refine (v_calls _ _).mono ?_); rintro e W1 ⟨rfl, hc⟩; have hN := hS0.step hN (below_step (by first | exact Below.refl _ _ | exact below_one _ | exact below_two _ _ | exact below_three _ _ _) hc); obtain ⟨x0, x1, x2, x3, x4, x5⟩ := id hN)
          | (go_at_call 20; refine (hM1 _ _ _ _ _ (Tr.leaf _ _ _) (Tr.leaf _ _ _) (C_bind1 (Tr.leaf _ _ _)) (by omega)).mono ?_; rintro e W2 ⟨A3, c3, rfl, hc⟩; have hN := hS0.step hN (below_step (by first | exact Below.refl _ _ | exact below_one _ | exact below_two _ _ | exact below_three _ _ _) hc); obtain ⟨x0, x1, x2, x3, x4, x5⟩ := id hN)
          | (go_at_call 40; (with_reducible refine (alive_calls _).mono ?_); rintro e W1 ⟨rfl, hc⟩; have hN := hS0.step hN (below_step (by first | exact Below.refl _ _ | exact below_one _ | exact below_two _ _ | exact below_three _ _ _) hc); obtain ⟨x0, x1, x2, x3, x4, x5⟩ := id hN)
          | (go_at_call 28; (with_reducible refine (good_calls _ dp _ (HTD.out.later (below_step hN.below (by first | exact Below.refl _ _ | exact below_one _ | exact below_two _ _ | exact below_three _ _ _))) hok).mono ?_); rintro e W1 ⟨rfl, hc⟩; have hN := hS0.step hN (below_step (by first | exact Below.refl _ _ | exact below_one _ | exact below_two _ _ | exact below_three _ _ _) hc); obtain ⟨x0, x1, x2, x3, x4, x5⟩ := id hN)
          | (go_at_call 28; refine (good_calls _ _ _ (Tr.leaf _ _ _) (by decide +kernel)).mono ?_; rintro e W1 ⟨rfl, hc⟩; have hN := hS0.step hN (below_step (by first | exact Below.refl _ _ | exact below_one _ | exact below_two _ _ | exact below_three _ _ _) hc); obtain ⟨x0, x1, x2, x3, x4, x5⟩ := id hN)
          | (go_at_call 36; (with_reducible refine (hfd _ (HTD.out.later (below_step hN.below (by first | exact Below.refl _ _ | exact below_one _ | exact below_two _ _ | exact below_three _ _ _)))).mono ?_); rintro e W1 ⟨r, rfl, hT, hc⟩; have hN := hS0.step hN (below_step (by first | exact Below.refl _ _ | exact below_one _ | exact below_two _ _ | exact below_three _ _ _) hc); obtain ⟨x0, x1, x2, x3, x4, x5⟩ := id hN)
          | (go_at_call 42; refine (bad_calls _ (tFn dp dp) _ hT ((fitD_iff _).1 hdf) hdb).mono ?_; rintro e W1 ⟨rfl, hc⟩; have hN := hS0.step hN (below_step (by first | exact Below.refl _ _ | exact below_one _ | exact below_two _ _ | exact below_three _ _ _) hc); obtain ⟨x0, x1, x2, x3, x4, x5⟩ := id hN))
        go_ret
        exact ⟨rfl, below_step HBW.out hN.below⟩
end Go.Proofs.Ytgnklkmifcmlhaa.Q
