/- Proved here: parts of the proof of a given statement (HRowPrinterTypes): contracts of the functions that it reaches, what they answer, and in the last text the statement itself. Conditions: those that each theorem names. -/
import Derived.Test.YtgnklkmifcmlhaaZPTX10
import Derived.Test.YtgnklkmifcmlhaaZPTX6
import Derived.Test.YtgnklkmifcmlhaaZPTX12
import Derived.WideMake
import Derived.Outline
import Derived.Deep.CutRange
import Derived.Deep.CutBlock
/- Proved here: the contract of printer.typeText. Conditions: those that each theorem names. -/
namespace Go.Proofs.Ytgnklkmifcmlhaa.Q
open Go.RowKit Go.Shelf Go.Proofs.YtgnklkmifcmlhaaW.PrintWords Go.Proofs.YtgnklkmifcmlhaaW.PrintMore
set_option linter.unusedVariables false
set_option linter.unusedSimpArgs false
attribute [local go_sem] Oper.semAt_some
attribute [local go_sem] run_makeMap_plain

theorem q_dec (l : List UInt8) : (l == [45, 62] || l == [124, 45]) = decide (l = [45, 62] ∨ l = [124, 45]) := by
  by_cases h : l = [45, 62] <;> by_cases g : l = [124, 45] <;> simp [h, g]
theorem quote_calls (n : ByteArray) (w : World) (h : n.size ≤ 30) : Calls Try.prog 112 #[.string n] w fun e w' => e = .returned (.string (quoB n)) ∧ Below w.heap.size w w' := by
  have hb0 := Below.refl w.heap.size w
  go_enter Try.func112, Try.ntmps112
  go_wp2
  go_ret
  exact ⟨rfl, hb0⟩
theorem dest_tr2 (t : S25) (u : Value) (w : World) (hu : Tr w u t) (hs : szT t < 2932031007402) : Calls Try.prog 25 #[u] w fun e w' => ∃ A1 c1 A2 c2, e = .returned (.tuple #[.agg #[.bool (destF t).1.f0, .string (destF t).1.f1, .slice A1 (destF t).1.f2.length c1], .agg #[.bool (destF t).2.1.f0, .string (destF t).2.1.f1, .slice A2 (destF t).2.1.f2.length c2], .bool (destF t).2.2]) ∧
    (destF t).1.f2.length ≤ c1 ∧ k25.C w' A1 (destF t).1.f2.length (destF t).1.f2 ∧ (destF t).2.1.f2.length ≤ c2 ∧ k25.C w' A2 (destF t).2.1.f2.length (destF t).2.1.f2 ∧ Below w.heap.size w w' := by
  obtain ⟨A, c, rfl, hl, hC⟩ := hu
  refine (dest_calls t A c w hC hl (by omega)).mono ?_
  rintro e w' ⟨v1, v2, rfl, h1, h2, hb⟩
  obtain ⟨A1, c1, rfl, l1, C1⟩ := h1.reads
  obtain ⟨A2, c2, rfl, l2, C2⟩ := h2.reads
  exact ⟨A1, c1, A2, c2, rfl, l1, C1, l2, C2, hb⟩
set_option maxHeartbeats 2000000 in
set_option maxRecDepth 100000 in
theorem text_calls : ∀ (n : Nat) (t : S25) (A : Option Addr) (c : Nat) (w : World), szT t ≤ n → szT t ≤ 1500 → nm30 t → k25.C w A t.f2.length t.f2 → t.f2.length ≤ c →
    Calls Try.prog 79 #[.agg #[.bool t.f0, .string t.f1, .slice A t.f2.length c]] w fun e w' => e = .returned (.string (txT t)) ∧ Below w.heap.size w w'
  | 0, t, _, _, _, h, _, _, _, _ => by have := szT_pos t; omega
  | n + 1, t, A, c, w, hn, hs, hm, hA, hc => by
    have hb0 := below_one (w := w) (.cells #[.bool t.f0, .string t.f1, .slice A t.f2.length c] 25)
    have BX := blk_new w (.cells #[.bool t.f0, .string t.f1, .slice A t.f2.length c] 25)
    obtain ⟨x0, x1, x2, x3, x4, x5, x6⟩ := box3s BX
    have hsz := txT_size t hm
    rw [txT_eq] at hsz ⊢
    cases hv : t.f0 with
    | true =>
      rw [hv] at BX hb0 x0 x1 x2 x3 x4 x5 x6
      rw [if_pos rfl]
      clear hsz hA hm
      go_enter Try.func79, Try.ntmps79
      go_wp2
      go_ret
      exact ⟨rfl, hb0⟩
    | false =>
    rw [hv] at BX hb0 x0 x1 x2 x3 x4 x5 x6 hsz
    rw [if_neg (by simp)] at hsz ⊢
    have hD := fun W (hw : Below w.heap.size w W) => dest_tr2 t (.agg #[.bool false, .string t.f1, .slice A t.f2.length c]) W ⟨A, c, by rw [hv], hc, Kd.C_below hA hw⟩ (by omega)
    by_cases hf : t.f1 = funN ∧ t.f2.length = 2
    · obtain ⟨x, y, hxy⟩ : ∃ x y, t.f2 = [x, y] := by
        match hq : t.f2, hf.2 with
        | [x, y], _ => exact ⟨x, y, rfl⟩
      have hd : destF t = (x, y, true) := by
        unfold destF
        rw [if_pos ⟨hv, hf.1, hf.2⟩, hxy]
        rfl
      have h2 := szT_eq' t
      rw [hxy] at h2
      simp only [szL] at h2
      have htx : txN t.f1 t.f2 (t.f2.map txT) = ((if (destF x).2.2 = true then parB (txT x) else txT x) ++ arrB) ++ txT y := by
        unfold txN
        rw [if_pos hf, hxy]
        rfl
      have hmx := nm30_mem hm (show x ∈ t.f2 by rw [hxy]; simp)
      have hmy := nm30_mem hm (show y ∈ t.f2 by rw [hxy]; simp)
      have ihx := fun A' c' W hC hl => text_calls n x A' c' W (by omega) (by omega) hmx hC hl
      have ihy := fun A' c' W hC hl => text_calls n y A' c' W (by omega) (by omega) hmy hC hl
      have hDx := fun u W hu => dest_tr2 x u W hu (by omega)
      have zx := txT_size x hmx
      have zy := txT_size y hmy
      rw [hd] at hD
      rw [htx]
      clear htx hd hf hsz hm hmx hmy hA
      have sx : (txT x).size ≤ 60000 := by omega
      have sy : (txT y).size ≤ 60000 := by omega
      clear zx zy h2 hs hn hxy
      generalize txT x = tx at *
      generalize txT y = ty at *
      have hDx2 := hDx
      clear hDx
      cases hdx : (destF x).2.2 with
      | true =>
        rw [hdx] at hDx2
        rw [if_pos rfl]
        clear hdx
        go_enter Try.func79, Try.ntmps79
        go_wp2_with (first
          | (go_at_call 79; (with_reducible refine (ihy A2 c2 _ (Kd.C_below C2 (below_step hN hM)) l2).mono ?_); rintro e W4 ⟨rfl, hc4⟩; have hE := below_step (below_step hN hM) hc4)
          | (go_at_call 25; ((refine (hDx2 _ _ ⟨A1, c1, rfl, l1, Kd.C_below C1 hN⟩).mono ?_); rintro e W3 ⟨A3, c3, A4, c4, rfl, l3, C3, l4, C4, hc3⟩; have hM := below_step hc3 (two_new W3 (.cells #[.bool (destF x).1.f0, .string (destF x).1.f1, .slice A3 (destF x).1.f2.length c3] 25) (.cells #[.bool (destF x).2.1.f0, .string (destF x).2.1.f1, .slice A4 (destF x).2.1.f2.length c4] 25)).1; have Y3 := blk_below Y2 hM; obtain ⟨y0, y1, y2, y3, y4, y5, y6⟩ := box3s Y3))
          | (go_at_call 79; ((with_reducible refine (ihx A1 c1 _ (Kd.C_below C1 (two_new W1 _ _).1) l1).mono ?_); rintro e W2 ⟨rfl, hc2⟩; have hN := below_step (two_new W1 _ _).1 hc2; have X2 := blk_below (two_new W1 _ _).2.1 hc2; have Y2 := blk_below (two_new W1 _ _).2.2 hc2; obtain ⟨z0, z1, z2, z3, z4, z5, z6⟩ := box3s X2))
          | (go_at_call 25; (with_reducible refine (hD _ hb0).mono ?_); rintro e W1 ⟨A1, c1, A2, c2, rfl, l1, C1, l2, C2, hc1⟩))
        go_ret
        exact ⟨rfl, below_step (below_step hb0 hc1) hE⟩
      | false =>
        rw [hdx] at hDx2
        rw [if_neg (by simp)]
        clear hdx
        go_enter Try.func79, Try.ntmps79
        go_wp2_with (first
          | (go_at_call 79; (with_reducible refine (ihy A2 c2 _ (Kd.C_below C2 (below_step hN hM)) l2).mono ?_); rintro e W4 ⟨rfl, hc4⟩; have hE := below_step (below_step hN hM) hc4)
          | (go_at_call 25; ((refine (hDx2 _ _ ⟨A1, c1, rfl, l1, Kd.C_below C1 hN⟩).mono ?_); rintro e W3 ⟨A3, c3, A4, c4, rfl, l3, C3, l4, C4, hc3⟩; have hM := below_step hc3 (two_new W3 (.cells #[.bool (destF x).1.f0, .string (destF x).1.f1, .slice A3 (destF x).1.f2.length c3] 25) (.cells #[.bool (destF x).2.1.f0, .string (destF x).2.1.f1, .slice A4 (destF x).2.1.f2.length c4] 25)).1; have Y3 := blk_below Y2 hM; obtain ⟨y0, y1, y2, y3, y4, y5, y6⟩ := box3s Y3))
          | (go_at_call 79; ((with_reducible refine (ihx A1 c1 _ (Kd.C_below C1 (two_new W1 _ _).1) l1).mono ?_); rintro e W2 ⟨rfl, hc2⟩; have hN := below_step (two_new W1 _ _).1 hc2; have X2 := blk_below (two_new W1 _ _).2.1 hc2; have Y2 := blk_below (two_new W1 _ _).2.2 hc2; obtain ⟨z0, z1, z2, z3, z4, z5, z6⟩ := box3s X2))
          | (go_at_call 25; (with_reducible refine (hD _ hb0).mono ?_); rintro e W1 ⟨A1, c1, A2, c2, rfl, l1, C1, l2, C2, hc1⟩))
        go_ret
        exact ⟨rfl, below_step (below_step hb0 hc1) hE⟩
    · have hd2 : (destF t).2.2 = false := by
        unfold destF
        rw [if_neg (fun h => hf ⟨h.2.1, h.2.2⟩)]
      have htx : txN t.f1 t.f2 (t.f2.map txT) = if 0 < t.f2.length then addA (qnB t.f1) (t.f2.map txT) true ++ ⟨#[41]⟩ else addA (qnB t.f1) (t.f2.map txT) true := by
        unfold txN
        rw [if_neg hf]
      have hlen : t.f2.length ≤ 1500 := by
        have := szL_len t.f2
        have := szT_eq' t
        omega
      have ihk : ∀ kk, kk < t.f2.length → ∀ A' c' W, k25.C W A' (rd_T25 t.f2 (kk : Int)).f2.length (rd_T25 t.f2 (kk : Int)).f2 → (rd_T25 t.f2 (kk : Int)).f2.length ≤ c' → Calls Try.prog 79 #[.agg #[.bool (rd_T25 t.f2 (kk : Int)).f0, .string (rd_T25 t.f2 (kk : Int)).f1, .slice A' (rd_T25 t.f2 (kk : Int)).f2.length c']] W fun e w' => e = .returned (.string (txT (rd_T25 t.f2 (kk : Int)))) ∧ Below W.heap.size W w' := by
        intro kk hkk A' c' W hC hl
        have hm2 : rd_T25 t.f2 (kk : Int) ∈ t.f2 := by
          rw [(rd_get t.f2 kk _ (List.getElem?_eq_getElem hkk)).2]
          exact List.getElem_mem hkk
        have := szL_mem t.f2 _ hm2
        have := szT_eq' t
        exact text_calls n _ A' c' W (by omega) (by omega) (nm30_mem hm hm2) hC hl
      have hstep : ∀ o kk, kk < t.f2.length → addA o ((t.f2.map txT).take (kk + 1)) true = (addA o ((t.f2.map txT).take kk) true ++ (if kk = 0 then ⟨#[40]⟩ else ⟨#[44, 32]⟩)) ++ txT (rd_T25 t.f2 (kk : Int)) := by
        intro o kk hkk
        rw [List.take_add_one, List.getElem?_map, List.getElem?_eq_getElem hkk, (rd_get t.f2 kk _ (List.getElem?_eq_getElem hkk)).2]
        simp only [Option.map_some, Option.toList_some]
        rw [addA_snoc]
        cases kk with
        | zero => simp
        | succ k =>
          rw [if_neg, if_neg (by omega)]
          rintro ⟨_, h⟩
          have := congrArg List.length h
          rw [List.length_take, List.length_map, List.length_nil] at this
          omega
      have hz : (addA (qnB t.f1) (t.f2.map txT) true).size ≤ 60000 := by
        rw [htx] at hsz
        split at hsz
        · simp only [ByteArray.size_append] at hsz; omega
        · omega
      have hzk := fun k => Nat.le_trans (addA_take (t.f2.map txT) (qnB t.f1) true k) hz
      have hzx : ∀ kk, kk < t.f2.length → (txT (rd_T25 t.f2 (kk : Int))).size ≤ 60000 := by
        intro kk hkk
        have hm2 : rd_T25 t.f2 (kk : Int) ∈ t.f2 := by
          rw [(rd_get t.f2 kk _ (List.getElem?_eq_getElem hkk)).2]
          exact List.getElem_mem hkk
        have := szL_mem t.f2 _ hm2
        have := szT_eq' t
        have := txT_size _ (nm30_mem hm hm2)
        omega
      have hn30 : t.f1.size ≤ 30 := ((allT_eq _ t).1 hm).1
      rw [htx]
      rw [hd2] at hD
      have hAi : addA (qnB t.f1) (t.f2.map txT) true = addA (qnB t.f1) ((t.f2.map txT).take t.f2.length) true := by rw [← List.length_map (f := txT), List.take_length]
      rw [hAi]
      clear htx hAi hsz hm hf hd2 hs hn hz
      have HA := Aside0.mk hA
      have IH := Aside0.mk ihk
      have ST := Aside0.mk hstep
      have HZ := Aside0.mk hzk
      have HX := Aside0.mk hzx
      clear hA ihk hstep hzk hzx
      generalize t.f2.map txT = ts at *
      generalize hnm : t.f1 = nm at *
      go_enter Try.func79, Try.ntmps79
      have hquote := fun W (hw : Below w.heap.size w W) => quote_calls nm W hn30
      have hqc : qnB nm = if (decide (nm.toList = [45, 62] ∨ nm.toList = [124, 45])) = true then quoB nm else nm := by
        unfold qnB
        by_cases h : nm.toList = [45, 62] ∨ nm.toList = [124, 45] <;> simp [h]
      go_upto_region 11 with (first
        | (go_at_call 25; (with_reducible refine (hD _ hb0).mono ?_); rintro e W1 ⟨A1, c1, A2, c2, rfl, l1, C1, l2, C2, hc1⟩; have X1 := blk_below BX hc1; obtain ⟨y0, y1, y2, y3, y4, y5, y6⟩ := box3s X1))
      have hS0 : TxS w t nm A c ((W1.alloc (.cells #[.bool (destF t).1.f0, .string (destF t).1.f1, .slice A1 (destF t).1.f2.length c1] 25)).alloc (.cells #[.bool (destF t).2.1.f0, .string (destF t).2.1.f1, .slice A2 (destF t).2.1.f2.length c2] 25)) := ⟨blk_below X1 (two_new W1 (.cells #[.bool (destF t).1.f0, .string (destF t).1.f1, .slice A1 (destF t).1.f2.length c1] 25) (.cells #[.bool (destF t).2.1.f0, .string (destF t).2.1.f1, .slice A2 (destF t).2.1.f2.length c2] 25)).1, below_step (below_step hb0 hc1) (two_new W1 (.cells #[.bool (destF t).1.f0, .string (destF t).1.f1, .slice A1 (destF t).1.f2.length c1] 25) (.cells #[.bool (destF t).2.1.f0, .string (destF t).2.1.f1, .slice A2 (destF t).2.1.f2.length c2] 25)).1⟩
      clear hb0 BX x0 x1 x2 x3 x4 x5 x6 hD X1 y0 y1 y2 y3 y4 y5 y6 C1 C2 hc1 l1 l2
      generalize ((W1.alloc (.cells #[.bool (destF t).1.f0, .string (destF t).1.f1, .slice A1 (destF t).1.f2.length c1] 25)).alloc (.cells #[.bool (destF t).2.1.f0, .string (destF t).2.1.f1, .slice A2 (destF t).2.1.f2.length c2] 25)) = W0 at hS0 ⊢
      go_cut [48] from 13 to 76 (fun v48 wc => v48 = .bool (decide (nm.toList = [45, 62] ∨ nm.toList = [124, 45])) ∧ wc = W0)
      case first =>
        go_wp2_with fail
        all_goals go_meet
        all_goals (case rel => exact ⟨by first | (simp_all; done) | exact congrArg Value.bool (q_dec _) | (simp_all only [Bool.false_or, Bool.or_false]; exact congrArg Value.bool (q_dec _)), rfl⟩)
      case rest =>
      obtain ⟨rfl, rfl⟩ := hcut
      generalize decide (nm.toList = [45, 62] ∨ nm.toList = [124, 45]) = qq at *
      go_upto_if 48 with fail
      go_cut [10] from 13 to 76 (fun v10 wc => v10 = .string (qnB nm) ∧ Aside0 (TxS w t nm A c wc))
      case first =>
        obtain ⟨BW, hb⟩ := hS0
        cases qq with
        | true =>
          go_wp2_with (go_at_call 112; (with_reducible refine (hquote _ hb).mono ?_); rintro e W9 ⟨rfl, hcq⟩)
          go_meet
          case rel => exact ⟨by rw [hqc]; rfl, ⟨blk_below BW hcq, below_step hb hcq⟩⟩
        | false =>
          go_wp2_with fail
          go_meet
          case rel => exact ⟨by rw [hqc]; rfl, ⟨BW, hb⟩⟩
      case rest =>
      obtain ⟨rfl, hS1⟩ := hcut
      have hS0 := hS1.out
      clear hS1 hqc hquote
      obtain ⟨BWs, hbs⟩ := id hS0
      obtain ⟨z0, z1, z2, z3, z4, z5, z6⟩ := box3s BWs
      go_wp2_with fail
      clear z0 z1 z2 z3 z4 z5 z6 BWs hbs
      go_loopg [10, 54] t.f2.length (fun gg v10 v54 wr => ∃ kk : Nat, kk ≤ t.f2.length ∧ gg + kk = t.f2.length ∧ v10 = .string (addA (qnB nm) (ts.take kk) true) ∧ v54 = .int .i64 (kk : Int) ∧ Aside0 (TxS w t nm A c wr))
      case atStart =>
        refine ⟨0, by omega, by omega, ?_, rfl, ⟨hS0⟩⟩
        rw [List.take_zero]
        rfl
      case round =>
        obtain ⟨kk, hk1, hk2, rfl, rfl, hT⟩ := hrel
        clear hS0
        obtain ⟨BW, hb⟩ := hT.out
        clear hT
        obtain ⟨z0, z1, z2, z3, z4, z5, z6⟩ := box3s BW
        by_cases hkk : kk < t.f2.length
        · have q0 : decide (kk < t.f2.length) = true := decide_eq_true hkk
          obtain ⟨ad, A2, c2, rfl, hx0, hx1, hx2, hl2, hC2⟩ := at_T25 HA.out (kk : Int) (by omega) (by omega)
          replace hx0 := pw_cell_below hb hx0
          replace hx1 := pw_cell_below hb hx1
          replace hx2 := pw_cell_below hb hx2
          simp only [Int.toNat_natCast] at hx0 hx1 hx2
          have hcall := fun W (hw : Below w.heap.size w W) => IH.out kk hkk A2 c2 W (Kd.C_below hC2 hw) hl2
          have hs := ST.out (qnB nm) kk hkk
          have hz1 := HZ.out kk
          have hzx := HX.out kk hkk
          have HS := Lib.hid hs
          clear hs hC2
          generalize addA (qnB nm) (ts.take kk) true = ac at *
          generalize rd_T25 t.f2 (kk : Int) = x at *
          generalize txT x = tx at *
          have BN := blk_new wr (.cells #[.bool x.f0, .string x.f1, .slice A2 x.f2.length c2] 25)
          have hbn := below_one (w := wr) (.cells #[.bool x.f0, .string x.f1, .slice A2 x.f2.length c2] 25)
          go_upto_block 1 with fail
          obtain ⟨sep, hsep⟩ : ∃ sep : ByteArray, sep = if kk = 0 then ⟨#[40]⟩ else ⟨#[44, 32]⟩ := ⟨_, rfl⟩
          rw [← hsep] at HS
          have HP := Lib.hid hsep
          clear hsep
          go_cut [10, 54] from 54 to 69 (fun v10 v54 wc => v10 = .string ((ac ++ sep) ++ tx) ∧ v54 = .int .i64 (kk : Int) ∧ Aside0 (TxS w t nm (some ad) c wc))
          case first =>
            go_upto_region 16 with fail
            generalize wr.alloc (.cells #[.bool x.f0, .string x.f1, .slice A2 x.f2.length c2] 25) = W5 at *
            have hb5 := below_step hb hbn
            have BW5 := blk_below BW hbn
            obtain ⟨n0, n1, n2, n3, n4, n5, n6⟩ := box3s BN
            by_cases hk0 : kk = 0
            · subst hk0
              have hsep : sep = ⟨#[40]⟩ := HP.out
              subst hsep
              clear HP
              have m0 : ((W5.alloc (.map #[] 0)).drew).heap[W5.heap.size]? = some (.map #[] 0) := blk_new W5 (.map #[] 0)
              have m1A := putO_at (o := OA) (blk_lt m0)
              have m1B := putO_at (o := OB) (blk_lt m0)
              have r1 := insA m0
              have r2 := insB m0
              have r3 := insAB m1A
              have r4 := insBA m1B
              have m2A := putO_at (o := OAB) (blk_lt m1A)
              have m2B := putO_at (o := OBA) (blk_lt m1B)
              have r5 := lookAt m2A
              have r6 := lookBt m2B
              have Bd : Below W5.heap.size W5 W5.drew := below_drew1 (Below.refl _ _)
              have B0 : Below W5.heap.size W5 ((W5.alloc (.map #[] 0)).drew) := below_drew1 (below_one _)
              have B1A := putO_below (o := OA) B0 (Nat.le_refl _)
              have B1B := putO_below (o := OB) B0 (Nat.le_refl _)
              have B2A := putO_below (o := OAB) B1A (Nat.le_refl _)
              have B2B := putO_below (o := OBA) B1B (Nat.le_refl _)
              have n0B1A := pw_cell_below B1A n0
              have n1B1A := pw_cell_below B1A n1
              have n2B1A := pw_cell_below B1A n2
              have n0B1B := pw_cell_below B1B n0
              have n1B1B := pw_cell_below B1B n1
              have n2B1B := pw_cell_below B1B n2
              have n0B2A := pw_cell_below B2A n0
              have n1B2A := pw_cell_below B2A n1
              have n2B2A := pw_cell_below B2A n2
              have n0B2B := pw_cell_below B2B n0
              have n1B2B := pw_cell_below B2B n1
              have n2B2B := pw_cell_below B2B n2
              have z1' : ¬ 9223372036854775807 < 1 + tx.size := by omega
              have z2' : ¬ 9223372036854775807 < 2 + tx.size := by omega
              have z3' : ¬ 9223372036854775807 < ac.size + (1 + tx.size) := by omega
              have z4' : ¬ 9223372036854775807 < ac.size + (2 + tx.size) := by omega
              have hcall5 := fun W (hw : Below W5.heap.size W5 W) => hcall W (below_step hb5 hw)
              go_region_law (first
                | (go_simp; go_at_call 79; (with_reducible refine (hcall5 _ B2A).mono ?_); rintro e W6 ⟨rfl, hc6⟩; have hE := below_step B2A hc6; have h6 := blk_below m2A hc6; have r5 := lookAt h6)
                | (go_simp; go_at_call 79; (with_reducible refine (hcall5 _ B2B).mono ?_); rintro e W6 ⟨rfl, hc6⟩; have hE := below_step B2B hc6; have h6 := blk_below m2B hc6; have r6 := lookBt h6)
                | (go_simp; go_at_call 79; (with_reducible refine (hcall5 _ B1A).mono ?_); rintro e W6 ⟨rfl, hc6⟩; have hE := below_step B1A hc6; have h6 := blk_below m1A hc6; have r3 := insAB h6; have m2A := putO_at (o := OAB) (blk_lt h6); have r5 := lookAt m2A)
                | (go_simp; go_at_call 79; (with_reducible refine (hcall5 _ B1B).mono ?_); rintro e W6 ⟨rfl, hc6⟩; have hE := below_step B1B hc6; have h6 := blk_below m1B hc6; have r4 := insBA h6; have m2B := putO_at (o := OBA) (blk_lt h6); have r6 := lookBt m2B)
                | (go_simp; go_at_call 79; (with_reducible refine (hcall5 _ B0).mono ?_); rintro e W6 ⟨rfl, hc6⟩; have hE := below_step B0 hc6; have h6 := blk_below m0 hc6; have m1A := putO_at (o := OA) (blk_lt h6); have m1B := putO_at (o := OB) (blk_lt h6); have r1 := insA h6; have r2 := insB h6; have r3 := insAB m1A; have r4 := insBA m1B; have m2A := putO_at (o := OAB) (blk_lt m1A); have m2B := putO_at (o := OBA) (blk_lt m1B); have r5 := lookAt m2A; have r6 := lookBt m2B)
                | (go_simp; go_at_call 79; (with_reducible refine (hcall5 _ Bd).mono ?_); rintro e W6 ⟨rfl, hc6⟩; have hE := below_step Bd hc6; have h6 := blk_new W6 (.map #[] 0); have m1A := putO_at (o := OA) (blk_lt h6); have m1B := putO_at (o := OB) (blk_lt h6); have r1 := insA h6; have r2 := insB h6; have r3 := insAB m1A; have r4 := insBA m1B; have m2A := putO_at (o := OAB) (blk_lt m1A); have m2B := putO_at (o := OBA) (blk_lt m1B); have r5 := lookAt m2A; have r6 := lookBt m2B))
              all_goals go_wp2
              all_goals go_meet
              all_goals (case rel => exact ⟨by rw [ByteArray.append_assoc], rfl, ⟨blk_below BW5 (by first | exact hE | exact putO_below hE (Nat.le_refl _) | exact putO_below (putO_below hE (Nat.le_refl _)) (Nat.le_refl _) | exact putO_below (putO_below (below_step hE (below_one _)) hE.size) hE.size), below_step hb5 (by first | exact hE | exact putO_below hE (Nat.le_refl _) | exact putO_below (putO_below hE (Nat.le_refl _)) (Nat.le_refl _) | exact putO_below (putO_below (below_step hE (below_one _)) hE.size) hE.size)⟩⟩)
            · have q1 : ((kk : Int) == 0) = false := by simp; omega
              have hsep : sep = ⟨#[44, 32]⟩ := HP.out.trans (if_neg hk0)
              subst hsep
              clear HP
              have m0 : ((W5.alloc (.map #[] 0)).drew).heap[W5.heap.size]? = some (.map #[] 0) := blk_new W5 (.map #[] 0)
              have m1A := putO_at (o := OA) (blk_lt m0)
              have m1B := putO_at (o := OB) (blk_lt m0)
              have r1 := insA m0
              have r2 := insB m0
              have r3 := insAB m1A
              have r4 := insBA m1B
              have m2A := putO_at (o := OAB) (blk_lt m1A)
              have m2B := putO_at (o := OBA) (blk_lt m1B)
              have r5 := lookAf m2A
              have r6 := lookBf m2B
              have Bd : Below W5.heap.size W5 W5.drew := below_drew1 (Below.refl _ _)
              have B0 : Below W5.heap.size W5 ((W5.alloc (.map #[] 0)).drew) := below_drew1 (below_one _)
              have B1A := putO_below (o := OA) B0 (Nat.le_refl _)
              have B1B := putO_below (o := OB) B0 (Nat.le_refl _)
              have B2A := putO_below (o := OAB) B1A (Nat.le_refl _)
              have B2B := putO_below (o := OBA) B1B (Nat.le_refl _)
              have n0B1A := pw_cell_below B1A n0
              have n1B1A := pw_cell_below B1A n1
              have n2B1A := pw_cell_below B1A n2
              have n0B1B := pw_cell_below B1B n0
              have n1B1B := pw_cell_below B1B n1
              have n2B1B := pw_cell_below B1B n2
              have n0B2A := pw_cell_below B2A n0
              have n1B2A := pw_cell_below B2A n1
              have n2B2A := pw_cell_below B2A n2
              have n0B2B := pw_cell_below B2B n0
              have n1B2B := pw_cell_below B2B n1
              have n2B2B := pw_cell_below B2B n2
              have z1' : ¬ 9223372036854775807 < 1 + tx.size := by omega
              have z2' : ¬ 9223372036854775807 < 2 + tx.size := by omega
              have z3' : ¬ 9223372036854775807 < ac.size + (1 + tx.size) := by omega
              have z4' : ¬ 9223372036854775807 < ac.size + (2 + tx.size) := by omega
              have hcall5 := fun W (hw : Below W5.heap.size W5 W) => hcall W (below_step hb5 hw)
              go_region_law (first
                | (go_simp; go_at_call 79; (with_reducible refine (hcall5 _ B2A).mono ?_); rintro e W6 ⟨rfl, hc6⟩; have hE := below_step B2A hc6; have h6 := blk_below m2A hc6; have r5 := lookAf h6)
                | (go_simp; go_at_call 79; (with_reducible refine (hcall5 _ B2B).mono ?_); rintro e W6 ⟨rfl, hc6⟩; have hE := below_step B2B hc6; have h6 := blk_below m2B hc6; have r6 := lookBf h6)
                | (go_simp; go_at_call 79; (with_reducible refine (hcall5 _ B1A).mono ?_); rintro e W6 ⟨rfl, hc6⟩; have hE := below_step B1A hc6; have h6 := blk_below m1A hc6; have r3 := insAB h6; have m2A := putO_at (o := OAB) (blk_lt h6); have r5 := lookAf m2A)
                | (go_simp; go_at_call 79; (with_reducible refine (hcall5 _ B1B).mono ?_); rintro e W6 ⟨rfl, hc6⟩; have hE := below_step B1B hc6; have h6 := blk_below m1B hc6; have r4 := insBA h6; have m2B := putO_at (o := OBA) (blk_lt h6); have r6 := lookBf m2B)
                | (go_simp; go_at_call 79; (with_reducible refine (hcall5 _ B0).mono ?_); rintro e W6 ⟨rfl, hc6⟩; have hE := below_step B0 hc6; have h6 := blk_below m0 hc6; have m1A := putO_at (o := OA) (blk_lt h6); have m1B := putO_at (o := OB) (blk_lt h6); have r1 := insA h6; have r2 := insB h6; have r3 := insAB m1A; have r4 := insBA m1B; have m2A := putO_at (o := OAB) (blk_lt m1A); have m2B := putO_at (o := OBA) (blk_lt m1B); have r5 := lookAf m2A; have r6 := lookBf m2B)
                | (go_simp; go_at_call 79; (with_reducible refine (hcall5 _ Bd).mono ?_); rintro e W6 ⟨rfl, hc6⟩; have hE := below_step Bd hc6; have h6 := blk_new W6 (.map #[] 0); have m1A := putO_at (o := OA) (blk_lt h6); have m1B := putO_at (o := OB) (blk_lt h6); have r1 := insA h6; have r2 := insB h6; have r3 := insAB m1A; have r4 := insBA m1B; have m2A := putO_at (o := OAB) (blk_lt m1A); have m2B := putO_at (o := OBA) (blk_lt m1B); have r5 := lookAf m2A; have r6 := lookBf m2B))
              all_goals go_wp2
              all_goals go_meet
              all_goals (case rel => exact ⟨by rw [ByteArray.append_assoc], rfl, ⟨blk_below BW5 (by first | exact hE | exact putO_below hE (Nat.le_refl _) | exact putO_below (putO_below hE (Nat.le_refl _)) (Nat.le_refl _) | exact putO_below (putO_below (below_step hE (below_one _)) hE.size) hE.size), below_step hb5 (by first | exact hE | exact putO_below hE (Nat.le_refl _) | exact putO_below (putO_below hE (Nat.le_refl _)) (Nat.le_refl _) | exact putO_below (putO_below (below_step hE (below_one _)) hE.size) hE.size)⟩⟩)
          case rest =>
            obtain ⟨rfl, rfl, hS1⟩ := hcut
            go_wp2_with fail
            go_roundg (t.f2.length - kk - 1)
            case measure => omega
            case rel => exact ⟨kk + 1, by omega, by omega, by rw [HS.out] <;> rfl, by simp, ⟨hS1.out⟩⟩
        · have q0 : decide (kk < t.f2.length) = false := decide_eq_false hkk
          obtain rfl : kk = t.f2.length := by omega
          by_cases hp : 0 < t.f2.length
          · have q1 : decide (0 < t.f2.length) = true := decide_eq_true hp
            have hz1 := HZ.out t.f2.length
            go_wp2_with fail
            go_ret
            exact ⟨by (first | rfl | (simp only [hp, if_true]; rfl)), hb⟩
          · have q1 : decide (0 < t.f2.length) = false := decide_eq_false hp
            have hz1 := HZ.out t.f2.length
            go_wp2_with fail
            go_ret
            exact ⟨by (first | rfl | (simp only [hp, if_false]; rfl)), hb⟩
end Go.Proofs.Ytgnklkmifcmlhaa.Q
