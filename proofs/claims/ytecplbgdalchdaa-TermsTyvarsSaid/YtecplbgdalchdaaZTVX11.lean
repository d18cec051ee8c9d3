/- Proved here: parts of the proof of a given statement (HRowTermsTyvars): contracts of the functions that it reaches, what they answer, and in the last text the statement itself. Conditions: those that each theorem names. -/
import Derived.Test.YtecplbgdalchdaaZTVX3
-- written by a program of this session (wip/tools/myprint.py) out of the translation
namespace Go.Proofs.Ytecplbgdalchdaa.Q
open Go.RowKit Go.Proofs.YtecplbgdalchdaaW.PrintWords Go.Proofs.YtecplbgdalchdaaW.PrintLast Go.Proofs.YtecplbgdalchdaaW.PrintMore
attribute [local go_sem] max2_int min2_int max_two min_two max_three min_three max_four min_four   -- for this text's walks alone
set_option linter.unusedVariables false
set_option linter.unusedSimpArgs false

/-! ### sequentref01_Of: function 217 -/
end Go.Proofs.Ytecplbgdalchdaa.Q
-- written by a program of this session (wip/tools/myprint.py) out of the translation
namespace Go.Proofs.Ytecplbgdalchdaa.Q
open Go.RowKit Go.Proofs.YtecplbgdalchdaaW.PrintWords Go.Proofs.YtecplbgdalchdaaW.PrintLast Go.Proofs.YtecplbgdalchdaaW.PrintMore
attribute [local go_sem] max2_int min2_int max_two min_two max_three min_three max_four min_four   -- for this text's walks alone
set_option linter.unusedVariables false
set_option linter.unusedSimpArgs false

/-! ### sequentref01_ValidBinds: function 133 -/
end Go.Proofs.Ytecplbgdalchdaa.Q
-- written by a program of this session (wip/tools/myprint.py) out of the translation
namespace Go.Proofs.Ytecplbgdalchdaa.Q
open Go.RowKit Go.Proofs.YtecplbgdalchdaaW.PrintWords Go.Proofs.YtecplbgdalchdaaW.PrintLast Go.Proofs.YtecplbgdalchdaaW.PrintMore
attribute [local go_sem] max2_int min2_int max_two min_two max_three min_three max_four min_four   -- for this text's walks alone
set_option linter.unusedVariables false
set_option linter.unusedSimpArgs false

/-! ### sequentref01_Fun: function 172 -/
end Go.Proofs.Ytecplbgdalchdaa.Q
-- written by a program of this session (wip/tools/myprint.py) out of the translation
namespace Go.Proofs.Ytecplbgdalchdaa.Q
open Go.RowKit Go.Proofs.YtecplbgdalchdaaW.PrintWords Go.Proofs.YtecplbgdalchdaaW.PrintLast Go.Proofs.YtecplbgdalchdaaW.PrintMore
attribute [local go_sem] max2_int min2_int max_two min_two max_three min_three max_four min_four   -- for this text's walks alone
set_option linter.unusedVariables false
set_option linter.unusedSimpArgs false

/-! ### terms_extent: function 173 -/
mutual
def terms_extent.l0 : Nat → Int → Int → List (S27) → Int → Int → Option (Int × Int)
 | 0, _, _, _, _, _ => none
 | k + 1, x2, x3, x9, x10, x11 => if x11 < x10 then (if 0 ≤ x11 then (if x11 < (x9.length : Int) then ((terms_extent.f k ((rd_T27 x9 x11).f0) ((rd_T27 x9 x11).f1) ((rd_T27 x9 x11).f2.f0) ((rd_T27 x9 x11).f2.f1) ((rd_T27 x9 x11).f2.f2) ((rd_T27 x9 x11).f3) ((rd_T27 x9 x11).f4)).bind fun bt123 => (terms_extent.l0 k (wrap64 (x2 + bt123.1)) (mx x3 bt123.2) x9 x10 (wrap64 (x11 + 1)))) else (none)) else (none)) else (some (x2, wrap64 (x3 + 1)))
def terms_extent.f : Nat → Int → ByteArray → Bool → ByteArray → List (S24) → Int → List (S27) → Option (Int × Int)
 | 0, _, _, _, _, _, _, _ => none
 | k + 1, a0_0, a0_1, a0_2, a0_3, l0_4, a0_5, l0_6 => terms_extent.l0 k 1 0 l0_6 (l0_6.length : Int) 0
end
set_option maxHeartbeats 8000000 in
set_option maxRecDepth 100000 in
theorem terms_extent.calls (k : Nat) : ∀ (a0_0 : Int) (a0_1 : ByteArray) (a0_2 : Bool) (a0_3 : ByteArray) (A0_4 : Option Addr) (c0_4 : Nat) (l0_4 : List (S24)) (a0_5 : Int) (A0_6 : Option Addr) (c0_6 : Nat) (l0_6 : List (S27)) (r1 : Int) (r2 : Int) (w : World) (hr0_4 : Kd.C k24 w A0_4 l0_4.length l0_4) (hc0_4 : l0_4.length ≤ c0_4) (hr0_6 : Kd.C k27 w A0_6 l0_6.length l0_6) (hc0_6 : l0_6.length ≤ c0_6) (h : terms_extent.f k a0_0 a0_1 a0_2 a0_3 l0_4 a0_5 l0_6 = some (r1, r2)),
 Calls Try.prog 173 #[.agg #[.int .u8 a0_0, .string a0_1, .bool a0_2, .string a0_3, .slice A0_4 l0_4.length c0_4, .int .i64 a0_5, .slice A0_6 l0_6.length c0_6]] w fun e w' => e = .returned (.tuple #[.int .i64 r1, .int .i64 r2]) ∧ Below w.heap.size w w' := by
 induction k using Nat.strongRecOn with
 | _ k ih =>
 intro a0_0 a0_1 a0_2 a0_3 A0_4 c0_4 l0_4 a0_5 A0_6 c0_6 l0_6 r1 r2 w hr0_4 hc0_4 hr0_6 hc0_6 h
 cases k with
 | zero => exact absurd h (by simp [terms_extent.f])
 | succ k =>
 simp only [terms_extent.f] at h
 have hu27 := Try.underlying27
 have HR0_4 := Aside0.mk hr0_4
 have HC0_4 := Aside0.mk hc0_4
 clear hr0_4 hc0_4
 have HR0_6 := Aside0.mk hr0_6
 have HC0_6 := Aside0.mk hc0_6
 clear hr0_6 hc0_6
 have HB := Aside0.mk (Below.refl w.heap.size w)
 have H : (terms_extent.l0 k 1 0 l0_6 (l0_6.length : Int) 0) = some (r1, r2) := h
 clear h
 have H' := Aside0.mk H
 clear H
 go_enter Try.func173, Try.ntmps173
 go_wp2_with (first | ((with_reducible refine gate_dst (N := 1) rfl ?_); refine box_event ?hg (N := 1) ?hd (cs := #[.int .u8 a0_0, .string a0_1, .bool a0_2, .string a0_3, .slice A0_4 l0_4.length c0_4, .int .i64 a0_5, .slice A0_6 l0_6.length c0_6]) (t := 27) ?hr ?_; (case hd => rfl); (case hg => rfl); (case hr => first | (go_simp; done) | (go_simp; rfl)); intro gb120 hg w2 hbox hb; have n0_ := Aside0.mk (below_step bel_ hb); have n1_ := Aside0.mk (hbox); have n2_ := Aside0.mk ((by rw [hg]; exact (below_size bel_) : w.heap.size ≤ gb120)); have n3_ := Aside0.mk ((by rw [hg]; exact (below_size bel_) : w.heap.size ≤ gb120)); clear HB; have HB := n0_; have BK120 := n1_; have GW120 := n2_; have GE120 := n3_; clear n0_ n1_ n2_ n3_; clear hb hbox hg; have hcz3_0 : w2.cell? ⟨gb120, 0, none⟩ = some (.int .u8 a0_0) := (blk_cell BK120.out 0).trans rfl; have hcz3_1 : w2.cell? ⟨gb120, 1, none⟩ = some (.string a0_1) := (blk_cell BK120.out 1).trans rfl; have hcz3_2 : w2.cell? ⟨gb120, 2, none⟩ = some (.bool a0_2) := (blk_cell BK120.out 2).trans rfl; have hcz3_3 : w2.cell? ⟨gb120, 3, none⟩ = some (.string a0_3) := (blk_cell BK120.out 3).trans rfl; have hcz3_4 : w2.cell? ⟨gb120, 4, none⟩ = some (.slice A0_4 l0_4.length c0_4) := (blk_cell BK120.out 4).trans rfl; have hcz3_5 : w2.cell? ⟨gb120, 5, none⟩ = some (.int .i64 a0_5) := (blk_cell BK120.out 5).trans rfl; have hcz3_6 : w2.cell? ⟨gb120, 6, none⟩ = some (.slice A0_6 l0_6.length c0_6) := (blk_cell BK120.out 6).trans rfl; have hfz3_0 := blk_frozen BK120.out 0; have hfz3_1 := blk_frozen BK120.out 1; have hfz3_2 := blk_frozen BK120.out 2; have hfz3_3 := blk_frozen BK120.out 3; have hfz3_4 := blk_frozen BK120.out 4; have hfz3_5 := blk_frozen BK120.out 5; have hfz3_6 := blk_frozen BK120.out 6))
 go_loopg [2, 3, 11] k (fun kq v2 v3 v11 w' => ∃ (x2_1 : Int) (x3_1 : Int) (x11_1 : Int), v2 = .int .i64 x2_1 ∧ v3 = .int .i64 x3_1 ∧ v11 = .int .i64 x11_1 ∧ Aside0 (terms_extent.l0 kq x2_1 x3_1 l0_6 (l0_6.length : Int) x11_1 = some (r1, r2)) ∧ Aside0 (kq ≤ k) ∧ Aside0 (w'.heap[gb120]? = some (.cells #[.int .u8 a0_0, .string a0_1, .bool a0_2, .string a0_3, (.slice A0_4 l0_4.length c0_4), .int .i64 a0_5, (.slice A0_6 l0_6.length c0_6)] 27 (0, 0))) ∧ Aside0 (Below w.heap.size w w'))
 case atStart => exact ⟨(1), (0), (0), (by first | rfl | (simp; done) | (simp [*]; done)), (by first | rfl | (simp; done) | (simp [*]; done)), (by first | rfl | (simp; done) | (simp [*]; done)), H', ⟨Nat.le_refl _⟩, ⟨bk_ BK120⟩, ⟨bel_⟩⟩
 case round =>
  clear H'
  try clear c1
  try clear p2
  try clear hcz3_0
  try clear hcz3_1
  try clear hcz3_2
  try clear hcz3_3
  try clear hcz3_4
  try clear hcz3_5
  try clear hcz3_6
  try clear hfz3_0
  try clear hfz3_1
  try clear hfz3_2
  try clear hfz3_3
  try clear hfz3_4
  try clear hfz3_5
  try clear hfz3_6
  obtain ⟨x2_1, x3_1, x11_1, rfl, rfl, rfl, HA, HK1, BK120, HB⟩ := hrel
  cases gk with
  | zero => exact absurd HA.out (by simp [terms_extent.l0])
  | succ k1 =>
   have H := HA.out
   clear HA
   simp only [terms_extent.l0] at H
   by_cases c4 : x11_1 < (l0_6.length : Int)
   ·rw [if_pos c4] at H
    have c4b0 : decide (x11_1 < (l0_6.length : Int)) = true := decide_eq_true c4
    clear c4
    by_cases c5 : 0 ≤ x11_1
    ·rw [if_pos c5] at H
     have c5b0 : decide (0 ≤ x11_1) = true := decide_eq_true c5
     clear c5
     by_cases c6 : x11_1 < (l0_6.length : Int)
     ·rw [if_pos c6] at H
      have c6b0 : decide (x11_1 < (l0_6.length : Int)) = true := decide_eq_true c6
      clear c6
      replace H := Option.bind_eq_some_iff.mp H
      obtain ⟨⟨t123, t124⟩, A70, H⟩ := H
      replace H : (terms_extent.l0 k1 (wrap64 (x2_1 + t123)) (mx x3_1 t124) l0_6 (l0_6.length : Int) (wrap64 (x11_1 + 1))) = some (r1, r2) := H
      have A7 := Aside0.mk A70
      clear A70
      obtain ⟨ji8, hji8⟩ : ∃ j_ : Int, (mx x3_1 t124) = j_ := ⟨_, rfl⟩
      replace H : (terms_extent.l0 k1 (wrap64 (x2_1 + t123)) ji8 l0_6 (l0_6.length : Int) (wrap64 (x11_1 + 1))) = some (r1, r2) := by first | (rw [hji8] at H; exact H) | (simp only [hji8] at H ⊢; exact H)
      (try rw [hji8] at A7)
      have hji8_ : (if x3_1 < t124 then t124 else x3_1) = ji8 := hji8
      have H' := Aside0.mk H
      clear H
      have p121 : 0 ≤ (x11_1 : Int) := dq_
      have q121 : x11_1 < (l0_6.length : Int) := dq_
      obtain ⟨ad121, A121_4, c121_4, A121_6, c121_6, e121, hx121_0, hx121_1, hx121_2, hx121_3, hx121_4, hx121_5, hx121_6, hl121_4, hi121_4, hl121_6, hi121_6⟩ := at_T27 HR0_6.out x11_1 p121 q121
      cases e121
      replace hx121_0 := pw_cell_below HB.out hx121_0
      replace hx121_1 := pw_cell_below HB.out hx121_1
      replace hx121_2 := pw_cell_below HB.out hx121_2
      replace hx121_3 := pw_cell_below HB.out hx121_3
      replace hx121_4 := pw_cell_below HB.out hx121_4
      replace hx121_5 := pw_cell_below HB.out hx121_5
      replace hx121_6 := pw_cell_below HB.out hx121_6
      have HR121_4 := Aside0.mk hi121_4
      have HC121_4 := Aside0.mk hl121_4
      clear hi121_4 hl121_4
      have HR121_6 := Aside0.mk hi121_6
      have HC121_6 := Aside0.mk hl121_6
      clear hi121_6 hl121_6
      replace p121 := eq_true p121
      replace q121 := eq_true q121
      go_wp2_with (first | ((with_reducible refine gate_dst (N := 5) rfl ?_); refine box_event ?hg (N := 5) ?hd (cs := #[.int .u8 0, .string (⟨#[]⟩ : ByteArray), .bool false, .string (⟨#[]⟩ : ByteArray), .slice none 0 0, .int .i64 0, .slice none 0 0]) (t := 27) ?hr ?_; (case hd => rfl); (case hg => rfl); (case hr => first | (go_simp; done) | (go_simp; rfl)); intro gb122 hg w9 hbox hb; have n0_ := Aside0.mk (blk_below (g := gb120) (o := .cells #[.int .u8 a0_0, .string a0_1, .bool a0_2, .string a0_3, .slice A0_4 l0_4.length c0_4, .int .i64 a0_5, .slice (some ad121) l0_6.length c0_6] 27 (0, 0)) (bk_ BK120) hb); have n1_ := Aside0.mk (below_step bel_ hb); have n2_ := Aside0.mk (hbox); have n3_ := Aside0.mk ((by rw [hg]; exact (below_size bel_) : w.heap.size ≤ gb122)); have n4_ := Aside0.mk ((by rw [hg]; exact (below_size bel_) : w.heap.size ≤ gb122)); have n5_ := Aside0.mk ((by rw [hg]; exact Nat.ne_of_lt (blk_lt (g := gb120) (o := .cells #[.int .u8 a0_0, .string a0_1, .bool a0_2, .string a0_3, .slice A0_4 l0_4.length c0_4, .int .i64 a0_5, .slice (some ad121) l0_6.length c0_6] 27 (0, 0)) (bk_ BK120)) : gb120 ≠ gb122)); have n6_ := Aside0.mk ((by rw [hg]; exact Nat.ne_of_gt (blk_lt (g := gb120) (o := .cells #[.int .u8 a0_0, .string a0_1, .bool a0_2, .string a0_3, .slice A0_4 l0_4.length c0_4, .int .i64 a0_5, .slice (some ad121) l0_6.length c0_6] 27 (0, 0)) (bk_ BK120)) : gb122 ≠ gb120)); clear BK120; clear HB; have BK120 := n0_; have HB := n1_; have BK122 := n2_; have GW122 := n3_; have GE122 := n4_; have NB120_122 := n5_; have NB122_120 := n6_; clear n0_ n1_ n2_ n3_ n4_ n5_ n6_; clear hb hbox hg; have hnb10 := NB122_120.out; have hnc10 := NB120_122.out; have hcz11_0 : w9.cell? ⟨gb122, 0, none⟩ = some (.int .u8 0) := (blk_cell BK122.out 0).trans rfl; have hcz11_1 : w9.cell? ⟨gb122, 1, none⟩ = some (.string (⟨#[]⟩ : ByteArray)) := (blk_cell BK122.out 1).trans rfl; have hcz11_2 : w9.cell? ⟨gb122, 2, none⟩ = some (.bool false) := (blk_cell BK122.out 2).trans rfl; have hcz11_3 : w9.cell? ⟨gb122, 3, none⟩ = some (.string (⟨#[]⟩ : ByteArray)) := (blk_cell BK122.out 3).trans rfl; have hcz11_4 : w9.cell? ⟨gb122, 4, none⟩ = some (.slice none 0 0) := (blk_cell BK122.out 4).trans rfl; have hcz11_5 : w9.cell? ⟨gb122, 5, none⟩ = some (.int .i64 0) := (blk_cell BK122.out 5).trans rfl; have hcz11_6 : w9.cell? ⟨gb122, 6, none⟩ = some (.slice none 0 0) := (blk_cell BK122.out 6).trans rfl; have hfz11_0 := blk_frozen BK122.out 0; have hfz11_1 := blk_frozen BK122.out 1; have hfz11_2 := blk_frozen BK122.out 2; have hfz11_3 := blk_frozen BK122.out 3; have hfz11_4 := blk_frozen BK122.out 4; have hfz11_5 := blk_frozen BK122.out 5; have hfz11_6 := blk_frozen BK122.out 6) | ((with_reducible refine gate_callee (f := 173) rfl ?_); refine goesL_ (some 17) rfl rfl Try.func173 (by kernel_rfl) rfl #[.agg #[.int .u8 ((rd_T27 l0_6 x11_1).f0), .string ((rd_T27 l0_6 x11_1).f1), .bool ((rd_T27 l0_6 x11_1).f2.f0), .string ((rd_T27 l0_6 x11_1).f2.f1), .slice A121_4 ((rd_T27 l0_6 x11_1).f2.f2).length c121_4, .int .i64 ((rd_T27 l0_6 x11_1).f3), .slice A121_6 ((rd_T27 l0_6 x11_1).f4).length c121_6]] rfl (by (try simp only [List.map_toArray, List.map_cons, List.map_nil]); first | done | rfl | (simp only [List.length_drop, List.length_take]; rfl)) ?_; (with_reducible refine (ih k1 (by have := HK1.out; omega) ((rd_T27 l0_6 x11_1).f0) ((rd_T27 l0_6 x11_1).f1) ((rd_T27 l0_6 x11_1).f2.f0) ((rd_T27 l0_6 x11_1).f2.f1) _ _ ((rd_T27 l0_6 x11_1).f2.f2) ((rd_T27 l0_6 x11_1).f3) _ _ ((rd_T27 l0_6 x11_1).f4) t123 t124 _ ?side1 ?side2 ?side3 ?side4 A7.out).mono ?_); (case side1 => exact Kd.C_below HR121_4.out bel_); (case side2 => exact HC121_4.out); (case side3 => exact Kd.C_below HR121_6.out bel_); (case side4 => exact HC121_6.out); rintro e w12 ⟨rfl, hb⟩; refine ⟨_, rfl, ?_⟩; have n0_ := Aside0.mk (blk_below (g := gb120) (o := .cells #[.int .u8 a0_0, .string a0_1, .bool a0_2, .string a0_3, .slice A0_4 l0_4.length c0_4, .int .i64 a0_5, .slice (some ad121) l0_6.length c0_6] 27 (0, 0)) (by (with_reducible repeat (first | refine blk_drewN ?_ _ | refine blk_drew ?_ | refine blk_alloc ?_ _)); refine blk_far ?_ NB120_122.out _; (with_reducible repeat (first | refine blk_drewN ?_ _ | refine blk_drew ?_ | refine blk_alloc ?_ _)); refine blk_far ?_ NB120_122.out _; (with_reducible repeat (first | refine blk_drewN ?_ _ | refine blk_drew ?_ | refine blk_alloc ?_ _)); refine blk_far ?_ NB120_122.out _; (with_reducible repeat (first | refine blk_drewN ?_ _ | refine blk_drew ?_ | refine blk_alloc ?_ _)); refine blk_far ?_ NB120_122.out _; (with_reducible repeat (first | refine blk_drewN ?_ _ | refine blk_drew ?_ | refine blk_alloc ?_ _)); refine blk_far ?_ NB120_122.out _; (with_reducible repeat (first | refine blk_drewN ?_ _ | refine blk_drew ?_ | refine blk_alloc ?_ _)); refine blk_far ?_ NB120_122.out _; (with_reducible repeat (first | refine blk_drewN ?_ _ | refine blk_drew ?_ | refine blk_alloc ?_ _)); refine blk_far ?_ NB120_122.out _; (with_reducible repeat (first | refine blk_drewN ?_ _ | refine blk_drew ?_ | refine blk_alloc ?_ _)); exact BK120.out) hb); have n1_ := Aside0.mk (blk_below (g := gb122) (o := .cells #[.int .u8 ((rd_T27 l0_6 x11_1).f0), .string ((rd_T27 l0_6 x11_1).f1), .bool ((rd_T27 l0_6 x11_1).f2.f0), .string ((rd_T27 l0_6 x11_1).f2.f1), .slice A121_4 ((rd_T27 l0_6 x11_1).f2.f2).length c121_4, .int .i64 ((rd_T27 l0_6 x11_1).f3), .slice A121_6 ((rd_T27 l0_6 x11_1).f4).length c121_6] 27 (0, 0)) (by (with_reducible repeat (first | refine blk_drewN ?_ _ | refine blk_drew ?_ | refine blk_alloc ?_ _)); refine blk_put (cs := #[.int .u8 ((rd_T27 l0_6 x11_1).f0), .string ((rd_T27 l0_6 x11_1).f1), .bool ((rd_T27 l0_6 x11_1).f2.f0), .string ((rd_T27 l0_6 x11_1).f2.f1), .slice A121_4 ((rd_T27 l0_6 x11_1).f2.f2).length c121_4, .int .i64 ((rd_T27 l0_6 x11_1).f3), .slice none 0 0]) ?_ 6 _ rfl; (with_reducible repeat (first | refine blk_drewN ?_ _ | refine blk_drew ?_ | refine blk_alloc ?_ _)); refine blk_put (cs := #[.int .u8 ((rd_T27 l0_6 x11_1).f0), .string ((rd_T27 l0_6 x11_1).f1), .bool ((rd_T27 l0_6 x11_1).f2.f0), .string ((rd_T27 l0_6 x11_1).f2.f1), .slice A121_4 ((rd_T27 l0_6 x11_1).f2.f2).length c121_4, .int .i64 0, .slice none 0 0]) ?_ 5 _ rfl; (with_reducible repeat (first | refine blk_drewN ?_ _ | refine blk_drew ?_ | refine blk_alloc ?_ _)); refine blk_put (cs := #[.int .u8 ((rd_T27 l0_6 x11_1).f0), .string ((rd_T27 l0_6 x11_1).f1), .bool ((rd_T27 l0_6 x11_1).f2.f0), .string ((rd_T27 l0_6 x11_1).f2.f1), .slice none 0 0, .int .i64 0, .slice none 0 0]) ?_ 4 _ rfl; (with_reducible repeat (first | refine blk_drewN ?_ _ | refine blk_drew ?_ | refine blk_alloc ?_ _)); refine blk_put (cs := #[.int .u8 ((rd_T27 l0_6 x11_1).f0), .string ((rd_T27 l0_6 x11_1).f1), .bool ((rd_T27 l0_6 x11_1).f2.f0), .string (⟨#[]⟩ : ByteArray), .slice none 0 0, .int .i64 0, .slice none 0 0]) ?_ 3 _ rfl; (with_reducible repeat (first | refine blk_drewN ?_ _ | refine blk_drew ?_ | refine blk_alloc ?_ _)); refine blk_put (cs := #[.int .u8 ((rd_T27 l0_6 x11_1).f0), .string ((rd_T27 l0_6 x11_1).f1), .bool false, .string (⟨#[]⟩ : ByteArray), .slice none 0 0, .int .i64 0, .slice none 0 0]) ?_ 2 _ rfl; (with_reducible repeat (first | refine blk_drewN ?_ _ | refine blk_drew ?_ | refine blk_alloc ?_ _)); refine blk_put (cs := #[.int .u8 ((rd_T27 l0_6 x11_1).f0), .string (⟨#[]⟩ : ByteArray), .bool false, .string (⟨#[]⟩ : ByteArray), .slice none 0 0, .int .i64 0, .slice none 0 0]) ?_ 1 _ rfl; (with_reducible repeat (first | refine blk_drewN ?_ _ | refine blk_drew ?_ | refine blk_alloc ?_ _)); refine blk_put (cs := #[.int .u8 0, .string (⟨#[]⟩ : ByteArray), .bool false, .string (⟨#[]⟩ : ByteArray), .slice none 0 0, .int .i64 0, .slice none 0 0]) ?_ 0 _ rfl; (with_reducible repeat (first | refine blk_drewN ?_ _ | refine blk_drew ?_ | refine blk_alloc ?_ _)); exact BK122.out) hb); have n2_ := Aside0.mk (below_step bel_ hb); clear BK120; clear BK122; clear HB; have BK120 := n0_; have BK122 := n1_; have HB := n2_; clear n0_ n1_ n2_; (try clear hb); (try clear hb2); (try clear hk); (try clear hi)))
      go_roundg k1
      case measure => have := HK1.out; omega
      case rel => exact ⟨(wrap64 (x2_1 + t123)), (ji8), (wrap64 (x11_1 + 1)), (by first | rfl | (simp; done) | (simp [*]; done)), (by first | rfl | (simp; done) | (simp only [← hji8] <;> (first | rfl | simp)) | (simp [*]; done)), (by first | rfl | (simp; done) | (simp [*]; done)), H', ⟨by have := HK1.out; omega⟩, ⟨bk_ BK120⟩, ⟨bel_⟩⟩
     ·rw [if_neg c6] at H
      exact absurd H (by simp)
    ·rw [if_neg c5] at H
     exact absurd H (by simp)
   ·rw [if_neg c4] at H
    have c4b0 : decide (x11_1 < (l0_6.length : Int)) = false := decide_eq_false c4
    clear c4
    simp only [Option.some.injEq, Prod.mk.injEq] at H
    obtain ⟨rfl, rfl⟩ := H
    go_wp2
    go_ret2
    exact ⟨by first | rfl | (simp [errW_none, errW_some] <;> rfl) | (simp [*, errW_none, errW_some] <;> rfl), bel_⟩

end Go.Proofs.Ytecplbgdalchdaa.Q
-- written by a program of this session (wip/tools/myprint.py) out of the translation
namespace Go.Proofs.Ytecplbgdalchdaa.Q
open Go.RowKit Go.Proofs.YtecplbgdalchdaaW.PrintWords Go.Proofs.YtecplbgdalchdaaW.PrintLast Go.Proofs.YtecplbgdalchdaaW.PrintMore
attribute [local go_sem] max2_int min2_int max_two min_two max_three min_three max_four min_four   -- for this text's walks alone
set_option linter.unusedVariables false
set_option linter.unusedSimpArgs false

/-! ### terms_great: function 108 -/
def terms_great.f (k : Nat) (a0_0 : Int) (a0_1 : ByteArray) (a0_2 : Bool) (a0_3 : ByteArray) (l0_4 : List (S24)) (a0_5 : Int) (l0_6 : List (S27)) : Option (Bool) := (terms_extent.f k a0_0 a0_1 a0_2 a0_3 l0_4 a0_5 l0_6).bind fun bt126 => (if bt126.1 > 32000 then (some true) else (some (decide (bt126.2 > 300))))
set_option maxHeartbeats 8000000 in
set_option maxRecDepth 100000 in
theorem terms_great.calls (k : Nat) (a0_0 : Int) (a0_1 : ByteArray) (a0_2 : Bool) (a0_3 : ByteArray) (A0_4 : Option Addr) (c0_4 : Nat) (l0_4 : List (S24)) (a0_5 : Int) (A0_6 : Option Addr) (c0_6 : Nat) (l0_6 : List (S27)) (r : Bool) (w : World) (hr0_4 : Kd.C k24 w A0_4 l0_4.length l0_4) (hc0_4 : l0_4.length ≤ c0_4) (hr0_6 : Kd.C k27 w A0_6 l0_6.length l0_6) (hc0_6 : l0_6.length ≤ c0_6) (h : terms_great.f k a0_0 a0_1 a0_2 a0_3 l0_4 a0_5 l0_6 = some r) :
 Calls Try.prog 108 #[.agg #[.int .u8 a0_0, .string a0_1, .bool a0_2, .string a0_3, .slice A0_4 l0_4.length c0_4, .int .i64 a0_5, .slice A0_6 l0_6.length c0_6]] w fun e w' => e = .returned (.bool r) ∧ Below w.heap.size w w' := by
 have hu27 := Try.underlying27
 have HR0_4 := Aside0.mk hr0_4
 have HC0_4 := Aside0.mk hc0_4
 clear hr0_4 hc0_4
 have HR0_6 := Aside0.mk hr0_6
 have HC0_6 := Aside0.mk hc0_6
 clear hr0_6 hc0_6
 have HB := Aside0.mk (Below.refl w.heap.size w)
 have H : ((terms_extent.f k a0_0 a0_1 a0_2 a0_3 l0_4 a0_5 l0_6).bind fun bt126 => (if bt126.1 > 32000 then (some true) else (some (decide (bt126.2 > 300))))) = some r := h
 clear h
 replace H := Option.bind_eq_some_iff.mp H
 obtain ⟨⟨t126, t127⟩, A20, H⟩ := H
 replace H : (if t126 > 32000 then (some true) else (some (decide (t127 > 300)))) = some r := H
 have A2 := Aside0.mk A20
 clear A20
 by_cases c3 : t126 > 32000
 ·rw [if_pos c3] at H
  have c3b0 : decide (32000 < t126) = true := decide_eq_true c3
  clear c3
  obtain rfl := Option.some.inj H
  go_enter Try.func108, Try.ntmps108
  go_wp2_with (first | ((with_reducible refine gate_dst (N := 1) rfl ?_); refine box_event ?hg (N := 1) ?hd (cs := #[.int .u8 a0_0, .string a0_1, .bool a0_2, .string a0_3, .slice A0_4 l0_4.length c0_4, .int .i64 a0_5, .slice A0_6 l0_6.length c0_6]) (t := 27) ?hr ?_; (case hd => rfl); (case hg => rfl); (case hr => first | (go_simp; done) | (go_simp; rfl)); intro gb125 hg w4 hbox hb; have n0_ := Aside0.mk (below_step bel_ hb); have n1_ := Aside0.mk (hbox); have n2_ := Aside0.mk ((by rw [hg]; exact (below_size bel_) : w.heap.size ≤ gb125)); have n3_ := Aside0.mk ((by rw [hg]; exact (below_size bel_) : w.heap.size ≤ gb125)); clear HB; have HB := n0_; have BK125 := n1_; have GW125 := n2_; have GE125 := n3_; clear n0_ n1_ n2_ n3_; clear hb hbox hg; have hcz5_0 : w4.cell? ⟨gb125, 0, none⟩ = some (.int .u8 a0_0) := (blk_cell BK125.out 0).trans rfl; have hcz5_1 : w4.cell? ⟨gb125, 1, none⟩ = some (.string a0_1) := (blk_cell BK125.out 1).trans rfl; have hcz5_2 : w4.cell? ⟨gb125, 2, none⟩ = some (.bool a0_2) := (blk_cell BK125.out 2).trans rfl; have hcz5_3 : w4.cell? ⟨gb125, 3, none⟩ = some (.string a0_3) := (blk_cell BK125.out 3).trans rfl; have hcz5_4 : w4.cell? ⟨gb125, 4, none⟩ = some (.slice A0_4 l0_4.length c0_4) := (blk_cell BK125.out 4).trans rfl; have hcz5_5 : w4.cell? ⟨gb125, 5, none⟩ = some (.int .i64 a0_5) := (blk_cell BK125.out 5).trans rfl; have hcz5_6 : w4.cell? ⟨gb125, 6, none⟩ = some (.slice A0_6 l0_6.length c0_6) := (blk_cell BK125.out 6).trans rfl; have hfz5_0 := blk_frozen BK125.out 0; have hfz5_1 := blk_frozen BK125.out 1; have hfz5_2 := blk_frozen BK125.out 2; have hfz5_3 := blk_frozen BK125.out 3; have hfz5_4 := blk_frozen BK125.out 4; have hfz5_5 := blk_frozen BK125.out 5; have hfz5_6 := blk_frozen BK125.out 6) | ((with_reducible refine gate_callee (f := 173) rfl ?_); refine goesL_ (some 7) rfl rfl Try.func173 (by kernel_rfl) rfl #[.agg #[.int .u8 a0_0, .string a0_1, .bool a0_2, .string a0_3, .slice A0_4 l0_4.length c0_4, .int .i64 a0_5, .slice A0_6 l0_6.length c0_6]] rfl (by (try simp only [List.map_toArray, List.map_cons, List.map_nil]); first | done | rfl | (simp only [List.length_drop, List.length_take]; rfl)) ?_; (with_reducible refine (terms_extent.calls k a0_0 a0_1 a0_2 a0_3 _ _ l0_4 a0_5 _ _ l0_6 t126 t127 _ ?side1 ?side2 ?side3 ?side4 A2.out).mono ?_); (case side1 => repeat (first | exact (Kd.C_below HR0_4.out HB.out) | (with_reducible refine Kd.C_alloc ?_ _) | (with_reducible refine Kd.C_drewN ?_ _) | (with_reducible refine Kd.C_drew ?_))); (case side2 => exact HC0_4.out); (case side3 => repeat (first | exact (Kd.C_below HR0_6.out HB.out) | (with_reducible refine Kd.C_alloc ?_ _) | (with_reducible refine Kd.C_drewN ?_ _) | (with_reducible refine Kd.C_drew ?_))); (case side4 => exact HC0_6.out); rintro e w6 ⟨rfl, hb⟩; refine ⟨_, rfl, ?_⟩; have n0_ := Aside0.mk (blk_below (g := gb125) (o := .cells #[.int .u8 a0_0, .string a0_1, .bool a0_2, .string a0_3, .slice A0_4 l0_4.length c0_4, .int .i64 a0_5, .slice A0_6 l0_6.length c0_6] 27 (0, 0)) (bk_ BK125) hb); have n1_ := Aside0.mk (below_step bel_ hb); clear BK125; clear HB; have BK125 := n0_; have HB := n1_; clear n0_ n1_; (try clear hb); (try clear hb2); (try clear hk); (try clear hi)))
  go_ret
  exact ⟨by first | rfl | (simp [errW_none, errW_some] <;> rfl) | (simp [*, errW_none, errW_some] <;> rfl), bel_⟩
 ·rw [if_neg c3] at H
  have c3b0 : decide (32000 < t126) = false := decide_eq_false c3
  clear c3
  obtain rfl := Option.some.inj H
  go_enter Try.func108, Try.ntmps108
  go_wp2_with (first | ((with_reducible refine gate_dst (N := 1) rfl ?_); refine box_event ?hg (N := 1) ?hd (cs := #[.int .u8 a0_0, .string a0_1, .bool a0_2, .string a0_3, .slice A0_4 l0_4.length c0_4, .int .i64 a0_5, .slice A0_6 l0_6.length c0_6]) (t := 27) ?hr ?_; (case hd => rfl); (case hg => rfl); (case hr => first | (go_simp; done) | (go_simp; rfl)); intro gb125 hg w7 hbox hb; have n0_ := Aside0.mk (below_step bel_ hb); have n1_ := Aside0.mk (hbox); have n2_ := Aside0.mk ((by rw [hg]; exact (below_size bel_) : w.heap.size ≤ gb125)); have n3_ := Aside0.mk ((by rw [hg]; exact (below_size bel_) : w.heap.size ≤ gb125)); clear HB; have HB := n0_; have BK125 := n1_; have GW125 := n2_; have GE125 := n3_; clear n0_ n1_ n2_ n3_; clear hb hbox hg; have hcz8_0 : w7.cell? ⟨gb125, 0, none⟩ = some (.int .u8 a0_0) := (blk_cell BK125.out 0).trans rfl; have hcz8_1 : w7.cell? ⟨gb125, 1, none⟩ = some (.string a0_1) := (blk_cell BK125.out 1).trans rfl; have hcz8_2 : w7.cell? ⟨gb125, 2, none⟩ = some (.bool a0_2) := (blk_cell BK125.out 2).trans rfl; have hcz8_3 : w7.cell? ⟨gb125, 3, none⟩ = some (.string a0_3) := (blk_cell BK125.out 3).trans rfl; have hcz8_4 : w7.cell? ⟨gb125, 4, none⟩ = some (.slice A0_4 l0_4.length c0_4) := (blk_cell BK125.out 4).trans rfl; have hcz8_5 : w7.cell? ⟨gb125, 5, none⟩ = some (.int .i64 a0_5) := (blk_cell BK125.out 5).trans rfl; have hcz8_6 : w7.cell? ⟨gb125, 6, none⟩ = some (.slice A0_6 l0_6.length c0_6) := (blk_cell BK125.out 6).trans rfl; have hfz8_0 := blk_frozen BK125.out 0; have hfz8_1 := blk_frozen BK125.out 1; have hfz8_2 := blk_frozen BK125.out 2; have hfz8_3 := blk_frozen BK125.out 3; have hfz8_4 := blk_frozen BK125.out 4; have hfz8_5 := blk_frozen BK125.out 5; have hfz8_6 := blk_frozen BK125.out 6) | ((with_reducible refine gate_callee (f := 173) rfl ?_); refine goesL_ (some 7) rfl rfl Try.func173 (by kernel_rfl) rfl #[.agg #[.int .u8 a0_0, .string a0_1, .bool a0_2, .string a0_3, .slice A0_4 l0_4.length c0_4, .int .i64 a0_5, .slice A0_6 l0_6.length c0_6]] rfl (by (try simp only [List.map_toArray, List.map_cons, List.map_nil]); first | done | rfl | (simp only [List.length_drop, List.length_take]; rfl)) ?_; (with_reducible refine (terms_extent.calls k a0_0 a0_1 a0_2 a0_3 _ _ l0_4 a0_5 _ _ l0_6 t126 t127 _ ?side1 ?side2 ?side3 ?side4 A2.out).mono ?_); (case side1 => repeat (first | exact (Kd.C_below HR0_4.out HB.out) | (with_reducible refine Kd.C_alloc ?_ _) | (with_reducible refine Kd.C_drewN ?_ _) | (with_reducible refine Kd.C_drew ?_))); (case side2 => exact HC0_4.out); (case side3 => repeat (first | exact (Kd.C_below HR0_6.out HB.out) | (with_reducible refine Kd.C_alloc ?_ _) | (with_reducible refine Kd.C_drewN ?_ _) | (with_reducible refine Kd.C_drew ?_))); (case side4 => exact HC0_6.out); rintro e w9 ⟨rfl, hb⟩; refine ⟨_, rfl, ?_⟩; have n0_ := Aside0.mk (blk_below (g := gb125) (o := .cells #[.int .u8 a0_0, .string a0_1, .bool a0_2, .string a0_3, .slice A0_4 l0_4.length c0_4, .int .i64 a0_5, .slice A0_6 l0_6.length c0_6] 27 (0, 0)) (bk_ BK125) hb); have n1_ := Aside0.mk (below_step bel_ hb); clear BK125; clear HB; have BK125 := n0_; have HB := n1_; clear n0_ n1_; (try clear hb); (try clear hb2); (try clear hk); (try clear hi)))
  go_ret
  exact ⟨by first | rfl | (simp [errW_none, errW_some] <;> rfl) | (simp [*, errW_none, errW_some] <;> rfl), bel_⟩

end Go.Proofs.Ytecplbgdalchdaa.Q
-- written by a program of this session (wip/tools/myprint.py) out of the translation
namespace Go.Proofs.Ytecplbgdalchdaa.Q
open Go.RowKit Go.Proofs.YtecplbgdalchdaaW.PrintWords Go.Proofs.YtecplbgdalchdaaW.PrintLast Go.Proofs.YtecplbgdalchdaaW.PrintMore
attribute [local go_sem] max2_int min2_int max_two min_two max_three min_three max_four min_four   -- for this text's walks alone
set_option linter.unusedVariables false
set_option linter.unusedSimpArgs false

/-! ### cmp_isNaN_uint8: function 163 -/
def cmp_isNaN_uint8.f (a0 : Int) : Option (Bool) := some (a0 != a0)
set_option maxHeartbeats 8000000 in
set_option maxRecDepth 100000 in
theorem cmp_isNaN_uint8.calls (a0 : Int) (r : Bool) (w : World) (h : cmp_isNaN_uint8.f a0 = some r) :
 Calls Try.prog 163 #[.int .u8 a0] w fun e w' => e = .returned (.bool r) ∧ Drawn0 w w' := by
 have H : (some (a0 != a0)) = some r := h
 clear h
 obtain rfl := Option.some.inj H
 go_enter Try.func163, Try.ntmps163
 go_wp2
 go_ret
 exact ⟨by first | rfl | (simp; done) | (simp [*]; done), by repeat (first | exact Drawn0.refl _ | apply Drawn0.step)⟩

end Go.Proofs.Ytecplbgdalchdaa.Q
-- written by a program of this session (wip/tools/myprint.py) out of the translation
namespace Go.Proofs.Ytecplbgdalchdaa.Q
open Go.RowKit Go.Proofs.YtecplbgdalchdaaW.PrintWords Go.Proofs.YtecplbgdalchdaaW.PrintLast Go.Proofs.YtecplbgdalchdaaW.PrintMore
attribute [local go_sem] max2_int min2_int max_two min_two max_three min_three max_four min_four   -- for this text's walks alone
set_option linter.unusedVariables false
set_option linter.unusedSimpArgs false

/-! ### cmp_Compare_uint8: function 91 -/
def cmp_Compare_uint8.f (a0 : Int) (a1 : Int) : Option (Int) := (cmp_isNaN_uint8.f a0).bind fun t101 => ((cmp_isNaN_uint8.f a1).bind fun t102 => (if t101 = true then (if t102 = true then (some 0) else (some (-1))) else (if t102 = true then (some 1) else (if a0 < a1 then (some (-1)) else (if a0 > a1 then (some 1) else (some 0))))))
set_option maxHeartbeats 8000000 in
set_option maxRecDepth 100000 in
theorem cmp_Compare_uint8.calls (a0 : Int) (a1 : Int) (r : Int) (w : World) (h : cmp_Compare_uint8.f a0 a1 = some r) :
 Calls Try.prog 91 #[.int .u8 a0, .int .u8 a1] w fun e w' => e = .returned (.int .i64 r) ∧ Drawn0 w w' := by
 have H : ((cmp_isNaN_uint8.f a0).bind fun t101 => ((cmp_isNaN_uint8.f a1).bind fun t102 => (if t101 = true then (if t102 = true then (some 0) else (some (-1))) else (if t102 = true then (some 1) else (if a0 < a1 then (some (-1)) else (if a0 > a1 then (some 1) else (some 0))))))) = some r := h
 clear h
 replace H := Option.bind_eq_some_iff.mp H
 obtain ⟨t101, A30, H⟩ := H
 replace H : ((cmp_isNaN_uint8.f a1).bind fun t102 => (if t101 = true then (if t102 = true then (some 0) else (some (-1))) else (if t102 = true then (some 1) else (if a0 < a1 then (some (-1)) else (if a0 > a1 then (some 1) else (some 0)))))) = some r := H
 have A3 := Aside0.mk A30
 clear A30
 replace H := Option.bind_eq_some_iff.mp H
 obtain ⟨t102, A40, H⟩ := H
 replace H : (if t101 = true then (if t102 = true then (some 0) else (some (-1))) else (if t102 = true then (some 1) else (if a0 < a1 then (some (-1)) else (if a0 > a1 then (some 1) else (some 0))))) = some r := H
 have A4 := Aside0.mk A40
 clear A40
 by_cases c5 : t101 = true
 ·subst c5
  have H1 : (if t102 = true then (some 0) else (some (-1))) = some r := by rw [if_pos rfl] at H; exact H
  clear H
  have H := H1
  clear H1
  by_cases c6 : t102 = true
  ·subst c6
   have H1 : (some 0) = some r := by rw [if_pos rfl] at H; exact H
   clear H
   have H := H1
   clear H1
   obtain rfl := Option.some.inj H
   go_enter Try.func91, Try.ntmps91
   go_wp2_with (first | ((with_reducible refine gate_callee (f := 163) rfl ?_); refine goesL_ (some 8) rfl rfl Try.func163 (by kernel_rfl) rfl #[.int .u8 a0] rfl (by (try simp only [List.map_toArray, List.map_cons, List.map_nil]); first | done | rfl | (simp only [List.length_drop, List.length_take]; rfl)) ?_; (with_reducible refine (cmp_isNaN_uint8.calls a0 true _ A3.out).mono ?_); rintro e w' ⟨rfl, ⟨nd, rfl⟩⟩; refine ⟨_, rfl, ?_⟩) | ((with_reducible refine gate_callee (f := 163) rfl ?_); refine goesL_ (some 10) rfl rfl Try.func163 (by kernel_rfl) rfl #[.int .u8 a1] rfl (by (try simp only [List.map_toArray, List.map_cons, List.map_nil]); first | done | rfl | (simp only [List.length_drop, List.length_take]; rfl)) ?_; (with_reducible refine (cmp_isNaN_uint8.calls a1 true _ A4.out).mono ?_); rintro e w' ⟨rfl, ⟨nd, rfl⟩⟩; refine ⟨_, rfl, ?_⟩))
   go_ret
   exact ⟨by first | rfl | (simp; done) | (simp [*]; done), by repeat (first | exact Drawn0.refl _ | apply Drawn0.step)⟩
  ·replace c6 := Bool.eq_false_iff.mpr c6
   subst c6
   have H1 : (some (-1)) = some r := by rw [if_neg (show ¬ (false = true) by decide)] at H; exact H
   clear H
   have H := H1
   clear H1
   obtain rfl := Option.some.inj H
   go_enter Try.func91, Try.ntmps91
   go_wp2_with (first | ((with_reducible refine gate_callee (f := 163) rfl ?_); refine goesL_ (some 8) rfl rfl Try.func163 (by kernel_rfl) rfl #[.int .u8 a0] rfl (by (try simp only [List.map_toArray, List.map_cons, List.map_nil]); first | done | rfl | (simp only [List.length_drop, List.length_take]; rfl)) ?_; (with_reducible refine (cmp_isNaN_uint8.calls a0 true _ A3.out).mono ?_); rintro e w' ⟨rfl, ⟨nd, rfl⟩⟩; refine ⟨_, rfl, ?_⟩) | ((with_reducible refine gate_callee (f := 163) rfl ?_); refine goesL_ (some 10) rfl rfl Try.func163 (by kernel_rfl) rfl #[.int .u8 a1] rfl (by (try simp only [List.map_toArray, List.map_cons, List.map_nil]); first | done | rfl | (simp only [List.length_drop, List.length_take]; rfl)) ?_; (with_reducible refine (cmp_isNaN_uint8.calls a1 false _ A4.out).mono ?_); rintro e w' ⟨rfl, ⟨nd, rfl⟩⟩; refine ⟨_, rfl, ?_⟩))
   go_ret
   exact ⟨by first | rfl | (simp; done) | (simp [*]; done), by repeat (first | exact Drawn0.refl _ | apply Drawn0.step)⟩
 ·replace c5 := Bool.eq_false_iff.mpr c5
  subst c5
  have H1 : (if t102 = true then (some 1) else (if a0 < a1 then (some (-1)) else (if a0 > a1 then (some 1) else (some 0)))) = some r := by rw [if_neg (show ¬ (false = true) by decide)] at H; exact H
  clear H
  have H := H1
  clear H1
  by_cases c7 : t102 = true
  ·subst c7
   have H1 : (some 1) = some r := by rw [if_pos rfl] at H; exact H
   clear H
   have H := H1
   clear H1
   obtain rfl := Option.some.inj H
   go_enter Try.func91, Try.ntmps91
   go_wp2_with (first | ((with_reducible refine gate_callee (f := 163) rfl ?_); refine goesL_ (some 8) rfl rfl Try.func163 (by kernel_rfl) rfl #[.int .u8 a0] rfl (by (try simp only [List.map_toArray, List.map_cons, List.map_nil]); first | done | rfl | (simp only [List.length_drop, List.length_take]; rfl)) ?_; (with_reducible refine (cmp_isNaN_uint8.calls a0 false _ A3.out).mono ?_); rintro e w' ⟨rfl, ⟨nd, rfl⟩⟩; refine ⟨_, rfl, ?_⟩) | ((with_reducible refine gate_callee (f := 163) rfl ?_); refine goesL_ (some 10) rfl rfl Try.func163 (by kernel_rfl) rfl #[.int .u8 a1] rfl (by (try simp only [List.map_toArray, List.map_cons, List.map_nil]); first | done | rfl | (simp only [List.length_drop, List.length_take]; rfl)) ?_; (with_reducible refine (cmp_isNaN_uint8.calls a1 true _ A4.out).mono ?_); rintro e w' ⟨rfl, ⟨nd, rfl⟩⟩; refine ⟨_, rfl, ?_⟩))
   go_ret
   exact ⟨by first | rfl | (simp; done) | (simp [*]; done), by repeat (first | exact Drawn0.refl _ | apply Drawn0.step)⟩
  ·replace c7 := Bool.eq_false_iff.mpr c7
   subst c7
   have H1 : (if a0 < a1 then (some (-1)) else (if a0 > a1 then (some 1) else (some 0))) = some r := by rw [if_neg (show ¬ (false = true) by decide)] at H; exact H
   clear H
   have H := H1
   clear H1
   by_cases c8 : a0 < a1
   ·rw [if_pos c8] at H
    have c8b0 : decide (a0 < a1) = true := decide_eq_true c8
    clear c8
    obtain rfl := Option.some.inj H
    go_enter Try.func91, Try.ntmps91
    go_wp2_with (first | ((with_reducible refine gate_callee (f := 163) rfl ?_); refine goesL_ (some 8) rfl rfl Try.func163 (by kernel_rfl) rfl #[.int .u8 a0] rfl (by (try simp only [List.map_toArray, List.map_cons, List.map_nil]); first | done | rfl | (simp only [List.length_drop, List.length_take]; rfl)) ?_; (with_reducible refine (cmp_isNaN_uint8.calls a0 false _ A3.out).mono ?_); rintro e w' ⟨rfl, ⟨nd, rfl⟩⟩; refine ⟨_, rfl, ?_⟩) | ((with_reducible refine gate_callee (f := 163) rfl ?_); refine goesL_ (some 10) rfl rfl Try.func163 (by kernel_rfl) rfl #[.int .u8 a1] rfl (by (try simp only [List.map_toArray, List.map_cons, List.map_nil]); first | done | rfl | (simp only [List.length_drop, List.length_take]; rfl)) ?_; (with_reducible refine (cmp_isNaN_uint8.calls a1 false _ A4.out).mono ?_); rintro e w' ⟨rfl, ⟨nd, rfl⟩⟩; refine ⟨_, rfl, ?_⟩))
    go_ret
    exact ⟨by first | rfl | (simp; done) | (simp [*]; done), by repeat (first | exact Drawn0.refl _ | apply Drawn0.step)⟩
   ·rw [if_neg c8] at H
    have c8b0 : decide (a0 < a1) = false := decide_eq_false c8
    clear c8
    by_cases c9 : a0 > a1
    ·rw [if_pos c9] at H
     have c9b0 : decide (a1 < a0) = true := decide_eq_true c9
     clear c9
     obtain rfl := Option.some.inj H
     go_enter Try.func91, Try.ntmps91
     go_wp2_with (first | ((with_reducible refine gate_callee (f := 163) rfl ?_); refine goesL_ (some 8) rfl rfl Try.func163 (by kernel_rfl) rfl #[.int .u8 a0] rfl (by (try simp only [List.map_toArray, List.map_cons, List.map_nil]); first | done | rfl | (simp only [List.length_drop, List.length_take]; rfl)) ?_; (with_reducible refine (cmp_isNaN_uint8.calls a0 false _ A3.out).mono ?_); rintro e w' ⟨rfl, ⟨nd, rfl⟩⟩; refine ⟨_, rfl, ?_⟩) | ((with_reducible refine gate_callee (f := 163) rfl ?_); refine goesL_ (some 10) rfl rfl Try.func163 (by kernel_rfl) rfl #[.int .u8 a1] rfl (by (try simp only [List.map_toArray, List.map_cons, List.map_nil]); first | done | rfl | (simp only [List.length_drop, List.length_take]; rfl)) ?_; (with_reducible refine (cmp_isNaN_uint8.calls a1 false _ A4.out).mono ?_); rintro e w' ⟨rfl, ⟨nd, rfl⟩⟩; refine ⟨_, rfl, ?_⟩))
     go_ret
     exact ⟨by first | rfl | (simp; done) | (simp [*]; done), by repeat (first | exact Drawn0.refl _ | apply Drawn0.step)⟩
    ·rw [if_neg c9] at H
     have c9b0 : decide (a1 < a0) = false := decide_eq_false c9
     clear c9
     obtain rfl := Option.some.inj H
     go_enter Try.func91, Try.ntmps91
     go_wp2_with (first | ((with_reducible refine gate_callee (f := 163) rfl ?_); refine goesL_ (some 8) rfl rfl Try.func163 (by kernel_rfl) rfl #[.int .u8 a0] rfl (by (try simp only [List.map_toArray, List.map_cons, List.map_nil]); first | done | rfl | (simp only [List.length_drop, List.length_take]; rfl)) ?_; (with_reducible refine (cmp_isNaN_uint8.calls a0 false _ A3.out).mono ?_); rintro e w' ⟨rfl, ⟨nd, rfl⟩⟩; refine ⟨_, rfl, ?_⟩) | ((with_reducible refine gate_callee (f := 163) rfl ?_); refine goesL_ (some 10) rfl rfl Try.func163 (by kernel_rfl) rfl #[.int .u8 a1] rfl (by (try simp only [List.map_toArray, List.map_cons, List.map_nil]); first | done | rfl | (simp only [List.length_drop, List.length_take]; rfl)) ?_; (with_reducible refine (cmp_isNaN_uint8.calls a1 false _ A4.out).mono ?_); rintro e w' ⟨rfl, ⟨nd, rfl⟩⟩; refine ⟨_, rfl, ?_⟩))
     go_ret
     exact ⟨by first | rfl | (simp; done) | (simp [*]; done), by repeat (first | exact Drawn0.refl _ | apply Drawn0.step)⟩

end Go.Proofs.Ytecplbgdalchdaa.Q
-- written by a program of this session (wip/tools/myprint.py) out of the translation
namespace Go.Proofs.Ytecplbgdalchdaa.Q
open Go.RowKit Go.Proofs.YtecplbgdalchdaaW.PrintWords Go.Proofs.YtecplbgdalchdaaW.PrintLast Go.Proofs.YtecplbgdalchdaaW.PrintMore
attribute [local go_sem] max2_int min2_int max_two min_two max_three min_three max_four min_four   -- for this text's walks alone
set_option linter.unusedVariables false
set_option linter.unusedSimpArgs false

/-! ### sequentref02_Exact: function 34 -/
mutual
def sequentref02_Exact.j0 : Nat → Bool → Int → ByteArray → Bool → ByteArray → List (S24) → Int → List (S27) → Int → ByteArray → Bool → ByteArray → List (S24) → Int → List (S27) → Option (Bool)
 | 0, _, _, _, _, _, _, _, _, _, _, _, _, _, _, _ => none
 | k + 1, x41, x191000, x191001, x191002, x191003, x191004, x191005, x191006, x192000, x192001, x192002, x192003, x192004, x192005, x192006 => if x41 = true then (some false) else (sequentref02_Exact.l0 k 0 x191000 x191001 x191002 x191003 x191004 x191005 x191006 x192000 x192001 x192002 x192003 x192004 x192005 x192006)
def sequentref02_Exact.l0 : Nat → Int → Int → ByteArray → Bool → ByteArray → List (S24) → Int → List (S27) → Int → ByteArray → Bool → ByteArray → List (S24) → Int → List (S27) → Option (Bool)
 | 0, _, _, _, _, _, _, _, _, _, _, _, _, _, _, _ => none
 | k + 1, x5, x191000, x191001, x191002, x191003, x191004, x191005, x191006, x192000, x192001, x192002, x192003, x192004, x192005, x192006 => if x5 < (x191006.length : Int) then (if 0 ≤ x5 then (if x5 < (x192006.length : Int) then ((sequentref02_Exact.f k ((rd_T27 x191006 x5).f0) ((rd_T27 x191006 x5).f1) ((rd_T27 x191006 x5).f2.f0) ((rd_T27 x191006 x5).f2.f1) ((rd_T27 x191006 x5).f2.f2) ((rd_T27 x191006 x5).f3) ((rd_T27 x191006 x5).f4) ((rd_T27 x192006 x5).f0) ((rd_T27 x192006 x5).f1) ((rd_T27 x192006 x5).f2.f0) ((rd_T27 x192006 x5).f2.f1) ((rd_T27 x192006 x5).f2.f2) ((rd_T27 x192006 x5).f3) ((rd_T27 x192006 x5).f4)).bind fun t195 => (if t195 = true then (sequentref02_Exact.l0 k (wrap64 (x5 + 1)) x191000 x191001 x191002 x191003 x191004 x191005 x191006 x192000 x192001 x192002 x192003 x192004 x192005 x192006) else (some false))) else (none)) else (none)) else (some true)
def sequentref02_Exact.f : Nat → Int → ByteArray → Bool → ByteArray → List (S24) → Int → List (S27) → Int → ByteArray → Bool → ByteArray → List (S24) → Int → List (S27) → Option (Bool)
 | 0, _, _, _, _, _, _, _, _, _, _, _, _, _, _ => none
 | k + 1, a0_0, a0_1, a0_2, a0_3, l0_4, a0_5, l0_6, a1_0, a1_1, a1_2, a1_3, l1_4, a1_5, l1_6 => if a0_0 = a1_0 then (if a0_1.toList = a1_1.toList then ((sequentref01_Same.f k a0_2 a0_3 l0_4 a1_2 a1_3 l1_4).bind fun t192 => (if t192 = true then (if a0_5 = a1_5 then (sequentref02_Exact.j0 k ((l0_6.length : Int) != (l1_6.length : Int)) a0_0 a0_1 a0_2 a0_3 l0_4 a0_5 l0_6 a1_0 a1_1 a1_2 a1_3 l1_4 a1_5 l1_6) else (sequentref02_Exact.j0 k true a0_0 a0_1 a0_2 a0_3 l0_4 a0_5 l0_6 a1_0 a1_1 a1_2 a1_3 l1_4 a1_5 l1_6)) else (sequentref02_Exact.j0 k true a0_0 a0_1 a0_2 a0_3 l0_4 a0_5 l0_6 a1_0 a1_1 a1_2 a1_3 l1_4 a1_5 l1_6))) else (sequentref02_Exact.j0 k true a0_0 a0_1 a0_2 a0_3 l0_4 a0_5 l0_6 a1_0 a1_1 a1_2 a1_3 l1_4 a1_5 l1_6)) else (sequentref02_Exact.j0 k true a0_0 a0_1 a0_2 a0_3 l0_4 a0_5 l0_6 a1_0 a1_1 a1_2 a1_3 l1_4 a1_5 l1_6)
end
def sequentref02_Exact.T6 : Bool × List (List Nat × List Nat) := (true, [([], []), ([0], [0]), ([], []), ([1, 2], [1, 2]), ([3], [3]), ([], []), ([5], [5]), ([], []), ([6, 7], [6, 7]), ([8], [8]), ([4, 9], [4, 9]), ([10], [10])])
def sequentref02_Exact.B6 : List Nat := [0, 1, 0, 7, 15, 0, 32, 0, 224, 480, 1023, 2047]
theorem sequentref02_Exact.tab6 : rtab .any (opsOf Try.f34 6) = sequentref02_Exact.T6 := by kernel_rfl
theorem sequentref02_Exact.bits6 : waitsOk sequentref02_Exact.T6.2 sequentref02_Exact.B6 = true := by kernel_rfl
set_option maxHeartbeats 8000000 in
set_option maxRecDepth 100000 in
theorem sequentref02_Exact.calls (k : Nat) : ∀ (a0_0 : Int) (a0_1 : ByteArray) (a0_2 : Bool) (a0_3 : ByteArray) (A0_4 : Option Addr) (c0_4 : Nat) (l0_4 : List (S24)) (a0_5 : Int) (A0_6 : Option Addr) (c0_6 : Nat) (l0_6 : List (S27)) (a1_0 : Int) (a1_1 : ByteArray) (a1_2 : Bool) (a1_3 : ByteArray) (A1_4 : Option Addr) (c1_4 : Nat) (l1_4 : List (S24)) (a1_5 : Int) (A1_6 : Option Addr) (c1_6 : Nat) (l1_6 : List (S27)) (r : Bool) (w : World) (hr0_4 : Kd.C k24 w A0_4 l0_4.length l0_4) (hc0_4 : l0_4.length ≤ c0_4) (hr0_6 : Kd.C k27 w A0_6 l0_6.length l0_6) (hc0_6 : l0_6.length ≤ c0_6) (hr1_4 : Kd.C k24 w A1_4 l1_4.length l1_4) (hc1_4 : l1_4.length ≤ c1_4) (hr1_6 : Kd.C k27 w A1_6 l1_6.length l1_6) (hc1_6 : l1_6.length ≤ c1_6) (h : sequentref02_Exact.f k a0_0 a0_1 a0_2 a0_3 l0_4 a0_5 l0_6 a1_0 a1_1 a1_2 a1_3 l1_4 a1_5 l1_6 = some r),
 Calls Try.prog 34 #[.agg #[.int .u8 a0_0, .string a0_1, .bool a0_2, .string a0_3, .slice A0_4 l0_4.length c0_4, .int .i64 a0_5, .slice A0_6 l0_6.length c0_6], .agg #[.int .u8 a1_0, .string a1_1, .bool a1_2, .string a1_3, .slice A1_4 l1_4.length c1_4, .int .i64 a1_5, .slice A1_6 l1_6.length c1_6]] w fun e w' => e = .returned (.bool r) ∧ Below w.heap.size w w' := by
 induction k using Nat.strongRecOn with
 | _ k ih =>
 intro a0_0 a0_1 a0_2 a0_3 A0_4 c0_4 l0_4 a0_5 A0_6 c0_6 l0_6 a1_0 a1_1 a1_2 a1_3 A1_4 c1_4 l1_4 a1_5 A1_6 c1_6 l1_6 r w hr0_4 hc0_4 hr0_6 hc0_6 hr1_4 hc1_4 hr1_6 hc1_6 h
 cases k with
 | zero => exact absurd h (by simp [sequentref02_Exact.f])
 | succ k =>
 simp only [sequentref02_Exact.f] at h
 have hu27 := Try.underlying27
 have hu24 := Try.underlying24
 have HR0_4 := Aside0.mk hr0_4
 have HC0_4 := Aside0.mk hc0_4
 clear hr0_4 hc0_4
 have HR0_6 := Aside0.mk hr0_6
 have HC0_6 := Aside0.mk hc0_6
 clear hr0_6 hc0_6
 have HR1_4 := Aside0.mk hr1_4
 have HC1_4 := Aside0.mk hc1_4
 clear hr1_4 hc1_4
 have HR1_6 := Aside0.mk hr1_6
 have HC1_6 := Aside0.mk hc1_6
 clear hr1_6 hc1_6
 have HB := Aside0.mk (Below.refl w.heap.size w)
 have H : (if a0_0 = a1_0 then (if a0_1.toList = a1_1.toList then ((sequentref01_Same.f k a0_2 a0_3 l0_4 a1_2 a1_3 l1_4).bind fun t192 => (if t192 = true then (if a0_5 = a1_5 then (sequentref02_Exact.j0 k ((l0_6.length : Int) != (l1_6.length : Int)) a0_0 a0_1 a0_2 a0_3 l0_4 a0_5 l0_6 a1_0 a1_1 a1_2 a1_3 l1_4 a1_5 l1_6) else (sequentref02_Exact.j0 k true a0_0 a0_1 a0_2 a0_3 l0_4 a0_5 l0_6 a1_0 a1_1 a1_2 a1_3 l1_4 a1_5 l1_6)) else (sequentref02_Exact.j0 k true a0_0 a0_1 a0_2 a0_3 l0_4 a0_5 l0_6 a1_0 a1_1 a1_2 a1_3 l1_4 a1_5 l1_6))) else (sequentref02_Exact.j0 k true a0_0 a0_1 a0_2 a0_3 l0_4 a0_5 l0_6 a1_0 a1_1 a1_2 a1_3 l1_4 a1_5 l1_6)) else (sequentref02_Exact.j0 k true a0_0 a0_1 a0_2 a0_3 l0_4 a0_5 l0_6 a1_0 a1_1 a1_2 a1_3 l1_4 a1_5 l1_6)) = some r := h
 clear h
 have HC3 := Aside0.mk H
 clear H
 go_enter Try.func34, Try.ntmps34
 go_upto_region 1 with (first | ((with_reducible refine gate_dst (N := 2) rfl ?_); (try (refine gate_guard (by rfl) ?_; dsimp only)); refine box_event ?hg (N := 2) ?hd (cs := #[.int .u8 a0_0, .string a0_1, .bool a0_2, .string a0_3, .slice A0_4 l0_4.length c0_4, .int .i64 a0_5, .slice A0_6 l0_6.length c0_6]) (t := 27) ?hr ?_; (case hd => rfl); (case hg => rfl); (case hr => first | (go_simp; done) | (go_simp; rfl)); intro gb190 hg w4 hbox hb; have n0_ := Aside0.mk (below_step bel_ hb); have n1_ := Aside0.mk (hbox); have n2_ := Aside0.mk ((by rw [hg]; exact (below_size bel_) : w.heap.size ≤ gb190)); have n3_ := Aside0.mk ((by rw [hg]; exact (below_size bel_) : w.heap.size ≤ gb190)); clear HB; have HB := n0_; have BK190 := n1_; have GW190 := n2_; have GE190 := n3_; clear n0_ n1_ n2_ n3_; clear hb hbox hg) | ((with_reducible refine gate_dst (N := 3) rfl ?_); (try (refine gate_guard (by rfl) ?_; dsimp only)); refine box_event ?hg (N := 3) ?hd (cs := #[.int .u8 a1_0, .string a1_1, .bool a1_2, .string a1_3, .slice A1_4 l1_4.length c1_4, .int .i64 a1_5, .slice A1_6 l1_6.length c1_6]) (t := 27) ?hr ?_; (case hd => rfl); (case hg => rfl); (case hr => first | (go_simp; done) | (go_simp; rfl)); intro gb191 hg w5 hbox hb; have n0_ := Aside0.mk (blk_below (g := gb190) (o := .cells #[.int .u8 a0_0, .string a0_1, .bool a0_2, .string a0_3, .slice A0_4 l0_4.length c0_4, .int .i64 a0_5, .slice A0_6 l0_6.length c0_6] 27 (0, 0)) (bk_ BK190) hb); have n1_ := Aside0.mk (below_step bel_ hb); have n2_ := Aside0.mk (hbox); have n3_ := Aside0.mk ((by rw [hg]; exact (below_size bel_) : w.heap.size ≤ gb191)); have n4_ := Aside0.mk ((by rw [hg]; exact (below_size bel_) : w.heap.size ≤ gb191)); have n5_ := Aside0.mk ((by rw [hg]; exact Nat.ne_of_lt (blk_lt (g := gb190) (o := .cells #[.int .u8 a0_0, .string a0_1, .bool a0_2, .string a0_3, .slice A0_4 l0_4.length c0_4, .int .i64 a0_5, .slice A0_6 l0_6.length c0_6] 27 (0, 0)) (bk_ BK190)) : gb190 ≠ gb191)); have n6_ := Aside0.mk ((by rw [hg]; exact Nat.ne_of_gt (blk_lt (g := gb190) (o := .cells #[.int .u8 a0_0, .string a0_1, .bool a0_2, .string a0_3, .slice A0_4 l0_4.length c0_4, .int .i64 a0_5, .slice A0_6 l0_6.length c0_6] 27 (0, 0)) (bk_ BK190)) : gb191 ≠ gb190)); clear BK190; clear HB; have BK190 := n0_; have HB := n1_; have BK191 := n2_; have GW191 := n3_; have GE191 := n4_; have NB190_191 := n5_; have NB191_190 := n6_; clear n0_ n1_ n2_ n3_ n4_ n5_ n6_; clear hb hbox hg))
 (try simp only [Act.put, List.setIfInBounds_toArray, List.set_cons_zero, List.set_cons_succ])
 go_cut [41] (fun v41 wc => ∃ (kq : Nat) (x41_2 : Bool), v41 = .bool x41_2 ∧ Aside0 (sequentref02_Exact.j0 kq x41_2 a0_0 a0_1 a0_2 a0_3 l0_4 a0_5 l0_6 a1_0 a1_1 a1_2 a1_3 l1_4 a1_5 l1_6 = some r) ∧ Aside0 (kq ≤ k) ∧ Aside0 (wc.heap[gb190]? = some (.cells #[.int .u8 a0_0, .string a0_1, .bool a0_2, .string a0_3, (.slice A0_4 l0_4.length c0_4), .int .i64 a0_5, (.slice A0_6 l0_6.length c0_6)] 27 (0, 0))) ∧ Aside0 (wc.heap[gb191]? = some (.cells #[.int .u8 a1_0, .string a1_1, .bool a1_2, .string a1_3, (.slice A1_4 l1_4.length c1_4), .int .i64 a1_5, (.slice A1_6 l1_6.length c1_6)] 27 (0, 0))) ∧ Aside0 (Below w.heap.size w wc))
 case first =>
  have H := HC3.out
  clear HC3
  by_cases c6 : a0_0 = a1_0
  ·rw [if_pos c6] at H
   have c6b0 : (a0_0 == a1_0) = true := beq_iff_eq.mpr c6
   have c6b1 : (a0_0 != a1_0) = false := bne_eq_false_iff_eq.mpr c6
   clear c6
   (first | rw [c6b0] | (simp only [i64_w, i32_w]; rw [c6b0]) | skip)
   by_cases c7 : a0_1.toList = a1_1.toList
   ·rw [if_pos c7] at H
    have c7b0 : (a0_1.toList == a1_1.toList) = true := beq_iff_eq.mpr c7
    have c7b1 : (a0_1.toList != a1_1.toList) = false := bne_eq_false_iff_eq.mpr c7
    clear c7
    replace H := Option.bind_eq_some_iff.mp H
    obtain ⟨t192, A80, H⟩ := H
    replace H : (if t192 = true then (if a0_5 = a1_5 then (sequentref02_Exact.j0 k ((l0_6.length : Int) != (l1_6.length : Int)) a0_0 a0_1 a0_2 a0_3 l0_4 a0_5 l0_6 a1_0 a1_1 a1_2 a1_3 l1_4 a1_5 l1_6) else (sequentref02_Exact.j0 k true a0_0 a0_1 a0_2 a0_3 l0_4 a0_5 l0_6 a1_0 a1_1 a1_2 a1_3 l1_4 a1_5 l1_6)) else (sequentref02_Exact.j0 k true a0_0 a0_1 a0_2 a0_3 l0_4 a0_5 l0_6 a1_0 a1_1 a1_2 a1_3 l1_4 a1_5 l1_6)) = some r := H
    have A8 := Aside0.mk A80
    clear A80
    by_cases c9 : t192 = true
    ·subst c9
     have H1 : (if a0_5 = a1_5 then (sequentref02_Exact.j0 k ((l0_6.length : Int) != (l1_6.length : Int)) a0_0 a0_1 a0_2 a0_3 l0_4 a0_5 l0_6 a1_0 a1_1 a1_2 a1_3 l1_4 a1_5 l1_6) else (sequentref02_Exact.j0 k true a0_0 a0_1 a0_2 a0_3 l0_4 a0_5 l0_6 a1_0 a1_1 a1_2 a1_3 l1_4 a1_5 l1_6)) = some r := by rw [if_pos rfl] at H; exact H
     clear H
     have H := H1
     clear H1
     by_cases c10 : a0_5 = a1_5
     ·rw [if_pos c10] at H
      have c10b0 : (a0_5 == a1_5) = true := beq_iff_eq.mpr c10
      have c10b1 : (a0_5 != a1_5) = false := bne_eq_false_iff_eq.mpr c10
      clear c10
      have H' := Aside0.mk H
      clear H
      have hnb11 := NB190_191.out
      have hnc11 := NB191_190.out
      have hcz12_0 : w5.cell? ⟨gb190, 0, none⟩ = some (.int .u8 a0_0) := (blk_cell BK190.out 0).trans rfl
      have hcz12_1 : w5.cell? ⟨gb190, 1, none⟩ = some (.string a0_1) := (blk_cell BK190.out 1).trans rfl
      have hcz12_2 : w5.cell? ⟨gb190, 2, none⟩ = some (.bool a0_2) := (blk_cell BK190.out 2).trans rfl
      have hcz12_3 : w5.cell? ⟨gb190, 3, none⟩ = some (.string a0_3) := (blk_cell BK190.out 3).trans rfl
      have hcz12_4 : w5.cell? ⟨gb190, 4, none⟩ = some (.slice A0_4 l0_4.length c0_4) := (blk_cell BK190.out 4).trans rfl
      have hcz12_5 : w5.cell? ⟨gb190, 5, none⟩ = some (.int .i64 a0_5) := (blk_cell BK190.out 5).trans rfl
      have hcz12_6 : w5.cell? ⟨gb190, 6, none⟩ = some (.slice A0_6 l0_6.length c0_6) := (blk_cell BK190.out 6).trans rfl
      have hfz12_0 := blk_frozen BK190.out 0
      have hfz12_1 := blk_frozen BK190.out 1
      have hfz12_2 := blk_frozen BK190.out 2
      have hfz12_3 := blk_frozen BK190.out 3
      have hfz12_4 := blk_frozen BK190.out 4
      have hfz12_5 := blk_frozen BK190.out 5
      have hfz12_6 := blk_frozen BK190.out 6
      have hcz13_0 : w5.cell? ⟨gb191, 0, none⟩ = some (.int .u8 a1_0) := (blk_cell BK191.out 0).trans rfl
      have hcz13_1 : w5.cell? ⟨gb191, 1, none⟩ = some (.string a1_1) := (blk_cell BK191.out 1).trans rfl
      have hcz13_2 : w5.cell? ⟨gb191, 2, none⟩ = some (.bool a1_2) := (blk_cell BK191.out 2).trans rfl
      have hcz13_3 : w5.cell? ⟨gb191, 3, none⟩ = some (.string a1_3) := (blk_cell BK191.out 3).trans rfl
      have hcz13_4 : w5.cell? ⟨gb191, 4, none⟩ = some (.slice A1_4 l1_4.length c1_4) := (blk_cell BK191.out 4).trans rfl
      have hcz13_5 : w5.cell? ⟨gb191, 5, none⟩ = some (.int .i64 a1_5) := (blk_cell BK191.out 5).trans rfl
      have hcz13_6 : w5.cell? ⟨gb191, 6, none⟩ = some (.slice A1_6 l1_6.length c1_6) := (blk_cell BK191.out 6).trans rfl
      have hfz13_0 := blk_frozen BK191.out 0
      have hfz13_1 := blk_frozen BK191.out 1
      have hfz13_2 := blk_frozen BK191.out 2
      have hfz13_3 := blk_frozen BK191.out 3
      have hfz13_4 := blk_frozen BK191.out 4
      have hfz13_5 := blk_frozen BK191.out 5
      have hfz13_6 := blk_frozen BK191.out 6
      go_wp2_with (first | (go_at_call 31; (with_reducible refine (sequentref01_Same.calls k a0_2 a0_3 _ _ l0_4 a1_2 a1_3 _ _ l1_4 true _ ?side1 ?side2 ?side3 ?side4 A8.out).mono ?_); (case side1 => repeat (first | exact (Kd.C_below HR0_4.out HB.out) | (with_reducible refine Kd.C_alloc ?_ _) | (with_reducible refine Kd.C_drewN ?_ _) | (with_reducible refine Kd.C_drew ?_))); (case side2 => exact HC0_4.out); (case side3 => repeat (first | exact (Kd.C_below HR1_4.out HB.out) | (with_reducible refine Kd.C_alloc ?_ _) | (with_reducible refine Kd.C_drewN ?_ _) | (with_reducible refine Kd.C_drew ?_))); (case side4 => exact HC1_4.out); rintro e w14 ⟨rfl, hb⟩; have n0_ := Aside0.mk (blk_below (g := gb190) (o := .cells #[.int .u8 a0_0, .string a0_1, .bool a0_2, .string a0_3, .slice A0_4 l0_4.length c0_4, .int .i64 a0_5, .slice A0_6 l0_6.length c0_6] 27 (0, 0)) (bk_ BK190) hb); have n1_ := Aside0.mk (blk_below (g := gb191) (o := .cells #[.int .u8 a1_0, .string a1_1, .bool a1_2, .string a1_3, .slice A1_4 l1_4.length c1_4, .int .i64 a1_5, .slice A1_6 l1_6.length c1_6] 27 (0, 0)) (bk_ BK191) hb); have n2_ := Aside0.mk (below_step bel_ hb); clear BK190; clear BK191; clear HB; have BK190 := n0_; have BK191 := n1_; have HB := n2_; clear n0_ n1_ n2_; (try clear hb); (try clear hb2); (try clear hk); (try clear hi); have hcz15_0 : w14.cell? ⟨gb190, 0, none⟩ = some (.int .u8 a0_0) := (blk_cell BK190.out 0).trans rfl; have hcz15_1 : w14.cell? ⟨gb190, 1, none⟩ = some (.string a0_1) := (blk_cell BK190.out 1).trans rfl; have hcz15_2 : w14.cell? ⟨gb190, 2, none⟩ = some (.bool a0_2) := (blk_cell BK190.out 2).trans rfl; have hcz15_3 : w14.cell? ⟨gb190, 3, none⟩ = some (.string a0_3) := (blk_cell BK190.out 3).trans rfl; have hcz15_4 : w14.cell? ⟨gb190, 4, none⟩ = some (.slice A0_4 l0_4.length c0_4) := (blk_cell BK190.out 4).trans rfl; have hcz15_5 : w14.cell? ⟨gb190, 5, none⟩ = some (.int .i64 a0_5) := (blk_cell BK190.out 5).trans rfl; have hcz15_6 : w14.cell? ⟨gb190, 6, none⟩ = some (.slice A0_6 l0_6.length c0_6) := (blk_cell BK190.out 6).trans rfl; have hfz15_0 := blk_frozen BK190.out 0; have hfz15_1 := blk_frozen BK190.out 1; have hfz15_2 := blk_frozen BK190.out 2; have hfz15_3 := blk_frozen BK190.out 3; have hfz15_4 := blk_frozen BK190.out 4; have hfz15_5 := blk_frozen BK190.out 5; have hfz15_6 := blk_frozen BK190.out 6; have hcz16_0 : w14.cell? ⟨gb191, 0, none⟩ = some (.int .u8 a1_0) := (blk_cell BK191.out 0).trans rfl; have hcz16_1 : w14.cell? ⟨gb191, 1, none⟩ = some (.string a1_1) := (blk_cell BK191.out 1).trans rfl; have hcz16_2 : w14.cell? ⟨gb191, 2, none⟩ = some (.bool a1_2) := (blk_cell BK191.out 2).trans rfl; have hcz16_3 : w14.cell? ⟨gb191, 3, none⟩ = some (.string a1_3) := (blk_cell BK191.out 3).trans rfl; have hcz16_4 : w14.cell? ⟨gb191, 4, none⟩ = some (.slice A1_4 l1_4.length c1_4) := (blk_cell BK191.out 4).trans rfl; have hcz16_5 : w14.cell? ⟨gb191, 5, none⟩ = some (.int .i64 a1_5) := (blk_cell BK191.out 5).trans rfl; have hcz16_6 : w14.cell? ⟨gb191, 6, none⟩ = some (.slice A1_6 l1_6.length c1_6) := (blk_cell BK191.out 6).trans rfl; have hfz16_0 := blk_frozen BK191.out 0; have hfz16_1 := blk_frozen BK191.out 1; have hfz16_2 := blk_frozen BK191.out 2; have hfz16_3 := blk_frozen BK191.out 3; have hfz16_4 := blk_frozen BK191.out 4; have hfz16_5 := blk_frozen BK191.out 5; have hfz16_6 := blk_frozen BK191.out 6))
      go_meet
      case rel => exact ⟨_, (((l0_6.length : Int) != (l1_6.length : Int))), (by first | rfl | (simp; done) | (simp [*]; done)), H', ⟨by first | omega | exact Nat.le_refl _⟩, ⟨bk_ BK190⟩, ⟨bk_ BK191⟩, ⟨bel_⟩⟩
     ·rw [if_neg c10] at H
      have c10b0 : (a0_5 == a1_5) = false := beq_eq_false_iff_ne.mpr c10
      have c10b1 : (a0_5 != a1_5) = true := bne_iff_ne.mpr c10
      have H' := Aside0.mk H
      clear H
      have hnb17 := NB190_191.out
      have hnc17 := NB191_190.out
      have hcz18_0 : w5.cell? ⟨gb190, 0, none⟩ = some (.int .u8 a0_0) := (blk_cell BK190.out 0).trans rfl
      have hcz18_1 : w5.cell? ⟨gb190, 1, none⟩ = some (.string a0_1) := (blk_cell BK190.out 1).trans rfl
      have hcz18_2 : w5.cell? ⟨gb190, 2, none⟩ = some (.bool a0_2) := (blk_cell BK190.out 2).trans rfl
      have hcz18_3 : w5.cell? ⟨gb190, 3, none⟩ = some (.string a0_3) := (blk_cell BK190.out 3).trans rfl
      have hcz18_4 : w5.cell? ⟨gb190, 4, none⟩ = some (.slice A0_4 l0_4.length c0_4) := (blk_cell BK190.out 4).trans rfl
      have hcz18_5 : w5.cell? ⟨gb190, 5, none⟩ = some (.int .i64 a0_5) := (blk_cell BK190.out 5).trans rfl
      have hcz18_6 : w5.cell? ⟨gb190, 6, none⟩ = some (.slice A0_6 l0_6.length c0_6) := (blk_cell BK190.out 6).trans rfl
      have hfz18_0 := blk_frozen BK190.out 0
      have hfz18_1 := blk_frozen BK190.out 1
      have hfz18_2 := blk_frozen BK190.out 2
      have hfz18_3 := blk_frozen BK190.out 3
      have hfz18_4 := blk_frozen BK190.out 4
      have hfz18_5 := blk_frozen BK190.out 5
      have hfz18_6 := blk_frozen BK190.out 6
      have hcz19_0 : w5.cell? ⟨gb191, 0, none⟩ = some (.int .u8 a1_0) := (blk_cell BK191.out 0).trans rfl
      have hcz19_1 : w5.cell? ⟨gb191, 1, none⟩ = some (.string a1_1) := (blk_cell BK191.out 1).trans rfl
      have hcz19_2 : w5.cell? ⟨gb191, 2, none⟩ = some (.bool a1_2) := (blk_cell BK191.out 2).trans rfl
      have hcz19_3 : w5.cell? ⟨gb191, 3, none⟩ = some (.string a1_3) := (blk_cell BK191.out 3).trans rfl
      have hcz19_4 : w5.cell? ⟨gb191, 4, none⟩ = some (.slice A1_4 l1_4.length c1_4) := (blk_cell BK191.out 4).trans rfl
      have hcz19_5 : w5.cell? ⟨gb191, 5, none⟩ = some (.int .i64 a1_5) := (blk_cell BK191.out 5).trans rfl
      have hcz19_6 : w5.cell? ⟨gb191, 6, none⟩ = some (.slice A1_6 l1_6.length c1_6) := (blk_cell BK191.out 6).trans rfl
      have hfz19_0 := blk_frozen BK191.out 0
      have hfz19_1 := blk_frozen BK191.out 1
      have hfz19_2 := blk_frozen BK191.out 2
      have hfz19_3 := blk_frozen BK191.out 3
      have hfz19_4 := blk_frozen BK191.out 4
      have hfz19_5 := blk_frozen BK191.out 5
      have hfz19_6 := blk_frozen BK191.out 6
      go_wp2_with (first | (go_at_call 31; (with_reducible refine (sequentref01_Same.calls k a0_2 a0_3 _ _ l0_4 a1_2 a1_3 _ _ l1_4 true _ ?side1 ?side2 ?side3 ?side4 A8.out).mono ?_); (case side1 => repeat (first | exact (Kd.C_below HR0_4.out HB.out) | (with_reducible refine Kd.C_alloc ?_ _) | (with_reducible refine Kd.C_drewN ?_ _) | (with_reducible refine Kd.C_drew ?_))); (case side2 => exact HC0_4.out); (case side3 => repeat (first | exact (Kd.C_below HR1_4.out HB.out) | (with_reducible refine Kd.C_alloc ?_ _) | (with_reducible refine Kd.C_drewN ?_ _) | (with_reducible refine Kd.C_drew ?_))); (case side4 => exact HC1_4.out); rintro e w20 ⟨rfl, hb⟩; have n0_ := Aside0.mk (blk_below (g := gb190) (o := .cells #[.int .u8 a0_0, .string a0_1, .bool a0_2, .string a0_3, .slice A0_4 l0_4.length c0_4, .int .i64 a0_5, .slice A0_6 l0_6.length c0_6] 27 (0, 0)) (bk_ BK190) hb); have n1_ := Aside0.mk (blk_below (g := gb191) (o := .cells #[.int .u8 a1_0, .string a1_1, .bool a1_2, .string a1_3, .slice A1_4 l1_4.length c1_4, .int .i64 a1_5, .slice A1_6 l1_6.length c1_6] 27 (0, 0)) (bk_ BK191) hb); have n2_ := Aside0.mk (below_step bel_ hb); clear BK190; clear BK191; clear HB; have BK190 := n0_; have BK191 := n1_; have HB := n2_; clear n0_ n1_ n2_; (try clear hb); (try clear hb2); (try clear hk); (try clear hi); have hcz21_0 : w20.cell? ⟨gb190, 0, none⟩ = some (.int .u8 a0_0) := (blk_cell BK190.out 0).trans rfl; have hcz21_1 : w20.cell? ⟨gb190, 1, none⟩ = some (.string a0_1) := (blk_cell BK190.out 1).trans rfl; have hcz21_2 : w20.cell? ⟨gb190, 2, none⟩ = some (.bool a0_2) := (blk_cell BK190.out 2).trans rfl; have hcz21_3 : w20.cell? ⟨gb190, 3, none⟩ = some (.string a0_3) := (blk_cell BK190.out 3).trans rfl; have hcz21_4 : w20.cell? ⟨gb190, 4, none⟩ = some (.slice A0_4 l0_4.length c0_4) := (blk_cell BK190.out 4).trans rfl; have hcz21_5 : w20.cell? ⟨gb190, 5, none⟩ = some (.int .i64 a0_5) := (blk_cell BK190.out 5).trans rfl; have hcz21_6 : w20.cell? ⟨gb190, 6, none⟩ = some (.slice A0_6 l0_6.length c0_6) := (blk_cell BK190.out 6).trans rfl; have hfz21_0 := blk_frozen BK190.out 0; have hfz21_1 := blk_frozen BK190.out 1; have hfz21_2 := blk_frozen BK190.out 2; have hfz21_3 := blk_frozen BK190.out 3; have hfz21_4 := blk_frozen BK190.out 4; have hfz21_5 := blk_frozen BK190.out 5; have hfz21_6 := blk_frozen BK190.out 6; have hcz22_0 : w20.cell? ⟨gb191, 0, none⟩ = some (.int .u8 a1_0) := (blk_cell BK191.out 0).trans rfl; have hcz22_1 : w20.cell? ⟨gb191, 1, none⟩ = some (.string a1_1) := (blk_cell BK191.out 1).trans rfl; have hcz22_2 : w20.cell? ⟨gb191, 2, none⟩ = some (.bool a1_2) := (blk_cell BK191.out 2).trans rfl; have hcz22_3 : w20.cell? ⟨gb191, 3, none⟩ = some (.string a1_3) := (blk_cell BK191.out 3).trans rfl; have hcz22_4 : w20.cell? ⟨gb191, 4, none⟩ = some (.slice A1_4 l1_4.length c1_4) := (blk_cell BK191.out 4).trans rfl; have hcz22_5 : w20.cell? ⟨gb191, 5, none⟩ = some (.int .i64 a1_5) := (blk_cell BK191.out 5).trans rfl; have hcz22_6 : w20.cell? ⟨gb191, 6, none⟩ = some (.slice A1_6 l1_6.length c1_6) := (blk_cell BK191.out 6).trans rfl; have hfz22_0 := blk_frozen BK191.out 0; have hfz22_1 := blk_frozen BK191.out 1; have hfz22_2 := blk_frozen BK191.out 2; have hfz22_3 := blk_frozen BK191.out 3; have hfz22_4 := blk_frozen BK191.out 4; have hfz22_5 := blk_frozen BK191.out 5; have hfz22_6 := blk_frozen BK191.out 6))
      go_meet
      case rel => exact ⟨_, (true), (by first | rfl | (simp; done) | (simp [*]; done)), H', ⟨by first | omega | exact Nat.le_refl _⟩, ⟨bk_ BK190⟩, ⟨bk_ BK191⟩, ⟨bel_⟩⟩
    ·replace c9 := Bool.eq_false_iff.mpr c9
     subst c9
     have H1 : (sequentref02_Exact.j0 k true a0_0 a0_1 a0_2 a0_3 l0_4 a0_5 l0_6 a1_0 a1_1 a1_2 a1_3 l1_4 a1_5 l1_6) = some r := by rw [if_neg (show ¬ (false = true) by decide)] at H; exact H
     clear H
     have H := H1
     clear H1
     have H' := Aside0.mk H
     clear H
     have hnb23 := NB190_191.out
     have hnc23 := NB191_190.out
     have hcz24_0 : w5.cell? ⟨gb190, 0, none⟩ = some (.int .u8 a0_0) := (blk_cell BK190.out 0).trans rfl
     have hcz24_1 : w5.cell? ⟨gb190, 1, none⟩ = some (.string a0_1) := (blk_cell BK190.out 1).trans rfl
     have hcz24_2 : w5.cell? ⟨gb190, 2, none⟩ = some (.bool a0_2) := (blk_cell BK190.out 2).trans rfl
     have hcz24_3 : w5.cell? ⟨gb190, 3, none⟩ = some (.string a0_3) := (blk_cell BK190.out 3).trans rfl
     have hcz24_4 : w5.cell? ⟨gb190, 4, none⟩ = some (.slice A0_4 l0_4.length c0_4) := (blk_cell BK190.out 4).trans rfl
     have hcz24_5 : w5.cell? ⟨gb190, 5, none⟩ = some (.int .i64 a0_5) := (blk_cell BK190.out 5).trans rfl
     have hcz24_6 : w5.cell? ⟨gb190, 6, none⟩ = some (.slice A0_6 l0_6.length c0_6) := (blk_cell BK190.out 6).trans rfl
     have hfz24_0 := blk_frozen BK190.out 0
     have hfz24_1 := blk_frozen BK190.out 1
     have hfz24_2 := blk_frozen BK190.out 2
     have hfz24_3 := blk_frozen BK190.out 3
     have hfz24_4 := blk_frozen BK190.out 4
     have hfz24_5 := blk_frozen BK190.out 5
     have hfz24_6 := blk_frozen BK190.out 6
     have hcz25_0 : w5.cell? ⟨gb191, 0, none⟩ = some (.int .u8 a1_0) := (blk_cell BK191.out 0).trans rfl
     have hcz25_1 : w5.cell? ⟨gb191, 1, none⟩ = some (.string a1_1) := (blk_cell BK191.out 1).trans rfl
     have hcz25_2 : w5.cell? ⟨gb191, 2, none⟩ = some (.bool a1_2) := (blk_cell BK191.out 2).trans rfl
     have hcz25_3 : w5.cell? ⟨gb191, 3, none⟩ = some (.string a1_3) := (blk_cell BK191.out 3).trans rfl
     have hcz25_4 : w5.cell? ⟨gb191, 4, none⟩ = some (.slice A1_4 l1_4.length c1_4) := (blk_cell BK191.out 4).trans rfl
     have hcz25_5 : w5.cell? ⟨gb191, 5, none⟩ = some (.int .i64 a1_5) := (blk_cell BK191.out 5).trans rfl
     have hcz25_6 : w5.cell? ⟨gb191, 6, none⟩ = some (.slice A1_6 l1_6.length c1_6) := (blk_cell BK191.out 6).trans rfl
     have hfz25_0 := blk_frozen BK191.out 0
     have hfz25_1 := blk_frozen BK191.out 1
     have hfz25_2 := blk_frozen BK191.out 2
     have hfz25_3 := blk_frozen BK191.out 3
     have hfz25_4 := blk_frozen BK191.out 4
     have hfz25_5 := blk_frozen BK191.out 5
     have hfz25_6 := blk_frozen BK191.out 6
     go_wp2_with (first | (go_at_call 31; (with_reducible refine (sequentref01_Same.calls k a0_2 a0_3 _ _ l0_4 a1_2 a1_3 _ _ l1_4 false _ ?side1 ?side2 ?side3 ?side4 A8.out).mono ?_); (case side1 => repeat (first | exact (Kd.C_below HR0_4.out HB.out) | (with_reducible refine Kd.C_alloc ?_ _) | (with_reducible refine Kd.C_drewN ?_ _) | (with_reducible refine Kd.C_drew ?_))); (case side2 => exact HC0_4.out); (case side3 => repeat (first | exact (Kd.C_below HR1_4.out HB.out) | (with_reducible refine Kd.C_alloc ?_ _) | (with_reducible refine Kd.C_drewN ?_ _) | (with_reducible refine Kd.C_drew ?_))); (case side4 => exact HC1_4.out); rintro e w26 ⟨rfl, hb⟩; have n0_ := Aside0.mk (blk_below (g := gb190) (o := .cells #[.int .u8 a0_0, .string a0_1, .bool a0_2, .string a0_3, .slice A0_4 l0_4.length c0_4, .int .i64 a0_5, .slice A0_6 l0_6.length c0_6] 27 (0, 0)) (bk_ BK190) hb); have n1_ := Aside0.mk (blk_below (g := gb191) (o := .cells #[.int .u8 a1_0, .string a1_1, .bool a1_2, .string a1_3, .slice A1_4 l1_4.length c1_4, .int .i64 a1_5, .slice A1_6 l1_6.length c1_6] 27 (0, 0)) (bk_ BK191) hb); have n2_ := Aside0.mk (below_step bel_ hb); clear BK190; clear BK191; clear HB; have BK190 := n0_; have BK191 := n1_; have HB := n2_; clear n0_ n1_ n2_; (try clear hb); (try clear hb2); (try clear hk); (try clear hi)))
     go_meet
     case rel => exact ⟨_, (true), (by first | rfl | (simp; done) | (simp [*]; done)), H', ⟨by first | omega | exact Nat.le_refl _⟩, ⟨bk_ BK190⟩, ⟨bk_ BK191⟩, ⟨bel_⟩⟩
   ·rw [if_neg c7] at H
    have c7b0 : (a0_1.toList == a1_1.toList) = false := beq_eq_false_iff_ne.mpr c7
    have c7b1 : (a0_1.toList != a1_1.toList) = true := bne_iff_ne.mpr c7
    have H' := Aside0.mk H
    clear H
    have hnb27 := NB190_191.out
    have hnc27 := NB191_190.out
    have hcz28_0 : w5.cell? ⟨gb190, 0, none⟩ = some (.int .u8 a0_0) := (blk_cell BK190.out 0).trans rfl
    have hcz28_1 : w5.cell? ⟨gb190, 1, none⟩ = some (.string a0_1) := (blk_cell BK190.out 1).trans rfl
    have hcz28_2 : w5.cell? ⟨gb190, 2, none⟩ = some (.bool a0_2) := (blk_cell BK190.out 2).trans rfl
    have hcz28_3 : w5.cell? ⟨gb190, 3, none⟩ = some (.string a0_3) := (blk_cell BK190.out 3).trans rfl
    have hcz28_4 : w5.cell? ⟨gb190, 4, none⟩ = some (.slice A0_4 l0_4.length c0_4) := (blk_cell BK190.out 4).trans rfl
    have hcz28_5 : w5.cell? ⟨gb190, 5, none⟩ = some (.int .i64 a0_5) := (blk_cell BK190.out 5).trans rfl
    have hcz28_6 : w5.cell? ⟨gb190, 6, none⟩ = some (.slice A0_6 l0_6.length c0_6) := (blk_cell BK190.out 6).trans rfl
    have hfz28_0 := blk_frozen BK190.out 0
    have hfz28_1 := blk_frozen BK190.out 1
    have hfz28_2 := blk_frozen BK190.out 2
    have hfz28_3 := blk_frozen BK190.out 3
    have hfz28_4 := blk_frozen BK190.out 4
    have hfz28_5 := blk_frozen BK190.out 5
    have hfz28_6 := blk_frozen BK190.out 6
    have hcz29_0 : w5.cell? ⟨gb191, 0, none⟩ = some (.int .u8 a1_0) := (blk_cell BK191.out 0).trans rfl
    have hcz29_1 : w5.cell? ⟨gb191, 1, none⟩ = some (.string a1_1) := (blk_cell BK191.out 1).trans rfl
    have hcz29_2 : w5.cell? ⟨gb191, 2, none⟩ = some (.bool a1_2) := (blk_cell BK191.out 2).trans rfl
    have hcz29_3 : w5.cell? ⟨gb191, 3, none⟩ = some (.string a1_3) := (blk_cell BK191.out 3).trans rfl
    have hcz29_4 : w5.cell? ⟨gb191, 4, none⟩ = some (.slice A1_4 l1_4.length c1_4) := (blk_cell BK191.out 4).trans rfl
    have hcz29_5 : w5.cell? ⟨gb191, 5, none⟩ = some (.int .i64 a1_5) := (blk_cell BK191.out 5).trans rfl
    have hcz29_6 : w5.cell? ⟨gb191, 6, none⟩ = some (.slice A1_6 l1_6.length c1_6) := (blk_cell BK191.out 6).trans rfl
    have hfz29_0 := blk_frozen BK191.out 0
    have hfz29_1 := blk_frozen BK191.out 1
    have hfz29_2 := blk_frozen BK191.out 2
    have hfz29_3 := blk_frozen BK191.out 3
    have hfz29_4 := blk_frozen BK191.out 4
    have hfz29_5 := blk_frozen BK191.out 5
    have hfz29_6 := blk_frozen BK191.out 6
    go_wp2
    go_meet
    case rel => exact ⟨_, (true), (by first | rfl | (simp; done) | (simp [*]; done)), H', ⟨by first | omega | exact Nat.le_refl _⟩, ⟨bk_ BK190⟩, ⟨bk_ BK191⟩, ⟨bel_⟩⟩
  ·rw [if_neg c6] at H
   have c6b0 : (a0_0 == a1_0) = false := beq_eq_false_iff_ne.mpr c6
   have c6b1 : (a0_0 != a1_0) = true := bne_iff_ne.mpr c6
   (first | rw [c6b0] | (simp only [i64_w, i32_w]; rw [c6b0]) | skip)
   have H' := Aside0.mk H
   clear H
   have hnb30 := NB190_191.out
   have hnc30 := NB191_190.out
   have hcz31_0 : w5.cell? ⟨gb190, 0, none⟩ = some (.int .u8 a0_0) := (blk_cell BK190.out 0).trans rfl
   have hcz31_1 : w5.cell? ⟨gb190, 1, none⟩ = some (.string a0_1) := (blk_cell BK190.out 1).trans rfl
   have hcz31_2 : w5.cell? ⟨gb190, 2, none⟩ = some (.bool a0_2) := (blk_cell BK190.out 2).trans rfl
   have hcz31_3 : w5.cell? ⟨gb190, 3, none⟩ = some (.string a0_3) := (blk_cell BK190.out 3).trans rfl
   have hcz31_4 : w5.cell? ⟨gb190, 4, none⟩ = some (.slice A0_4 l0_4.length c0_4) := (blk_cell BK190.out 4).trans rfl
   have hcz31_5 : w5.cell? ⟨gb190, 5, none⟩ = some (.int .i64 a0_5) := (blk_cell BK190.out 5).trans rfl
   have hcz31_6 : w5.cell? ⟨gb190, 6, none⟩ = some (.slice A0_6 l0_6.length c0_6) := (blk_cell BK190.out 6).trans rfl
   have hfz31_0 := blk_frozen BK190.out 0
   have hfz31_1 := blk_frozen BK190.out 1
   have hfz31_2 := blk_frozen BK190.out 2
   have hfz31_3 := blk_frozen BK190.out 3
   have hfz31_4 := blk_frozen BK190.out 4
   have hfz31_5 := blk_frozen BK190.out 5
   have hfz31_6 := blk_frozen BK190.out 6
   have hcz32_0 : w5.cell? ⟨gb191, 0, none⟩ = some (.int .u8 a1_0) := (blk_cell BK191.out 0).trans rfl
   have hcz32_1 : w5.cell? ⟨gb191, 1, none⟩ = some (.string a1_1) := (blk_cell BK191.out 1).trans rfl
   have hcz32_2 : w5.cell? ⟨gb191, 2, none⟩ = some (.bool a1_2) := (blk_cell BK191.out 2).trans rfl
   have hcz32_3 : w5.cell? ⟨gb191, 3, none⟩ = some (.string a1_3) := (blk_cell BK191.out 3).trans rfl
   have hcz32_4 : w5.cell? ⟨gb191, 4, none⟩ = some (.slice A1_4 l1_4.length c1_4) := (blk_cell BK191.out 4).trans rfl
   have hcz32_5 : w5.cell? ⟨gb191, 5, none⟩ = some (.int .i64 a1_5) := (blk_cell BK191.out 5).trans rfl
   have hcz32_6 : w5.cell? ⟨gb191, 6, none⟩ = some (.slice A1_6 l1_6.length c1_6) := (blk_cell BK191.out 6).trans rfl
   have hfz32_0 := blk_frozen BK191.out 0
   have hfz32_1 := blk_frozen BK191.out 1
   have hfz32_2 := blk_frozen BK191.out 2
   have hfz32_3 := blk_frozen BK191.out 3
   have hfz32_4 := blk_frozen BK191.out 4
   have hfz32_5 := blk_frozen BK191.out 5
   have hfz32_6 := blk_frozen BK191.out 6
   go_wp2
   go_meet
   case rel => exact ⟨_, (true), (by first | rfl | (simp; done) | (simp [*]; done)), H', ⟨by first | omega | exact Nat.le_refl _⟩, ⟨bk_ BK190⟩, ⟨bk_ BK191⟩, ⟨bel_⟩⟩
 case rest =>
  clear HC3
  try clear c1
  try clear c2
  try clear p2
  try clear c3
  try clear c6
  try clear c6b0
  try clear c6b1
  try clear c7
  try clear c7b0
  try clear c7b1
  try clear c9
  try clear c10
  try clear c10b0
  try clear c10b1
  try clear c11
  try clear c17
  try clear c23
  try clear c27
  try clear c30
  try clear hcz12_0
  try clear hcz12_1
  try clear hcz12_2
  try clear hcz12_3
  try clear hcz12_4
  try clear hcz12_5
  try clear hcz12_6
  try clear hcz13_0
  try clear hcz13_1
  try clear hcz13_2
  try clear hcz13_3
  try clear hcz13_4
  try clear hcz13_5
  try clear hcz13_6
  try clear hcz15_0
  try clear hcz15_1
  try clear hcz15_2
  try clear hcz15_3
  try clear hcz15_4
  try clear hcz15_5
  try clear hcz15_6
  try clear hcz16_0
  try clear hcz16_1
  try clear hcz16_2
  try clear hcz16_3
  try clear hcz16_4
  try clear hcz16_5
  try clear hcz16_6
  try clear hcz18_0
  try clear hcz18_1
  try clear hcz18_2
  try clear hcz18_3
  try clear hcz18_4
  try clear hcz18_5
  try clear hcz18_6
  try clear hcz19_0
  try clear hcz19_1
  try clear hcz19_2
  try clear hcz19_3
  try clear hcz19_4
  try clear hcz19_5
  try clear hcz19_6
  try clear hcz21_0
  try clear hcz21_1
  try clear hcz21_2
  try clear hcz21_3
  try clear hcz21_4
  try clear hcz21_5
  try clear hcz21_6
  try clear hcz22_0
  try clear hcz22_1
  try clear hcz22_2
  try clear hcz22_3
  try clear hcz22_4
  try clear hcz22_5
  try clear hcz22_6
  try clear hcz24_0
  try clear hcz24_1
  try clear hcz24_2
  try clear hcz24_3
  try clear hcz24_4
  try clear hcz24_5
  try clear hcz24_6
  try clear hcz25_0
  try clear hcz25_1
  try clear hcz25_2
  try clear hcz25_3
  try clear hcz25_4
  try clear hcz25_5
  try clear hcz25_6
  try clear hcz28_0
  try clear hcz28_1
  try clear hcz28_2
  try clear hcz28_3
  try clear hcz28_4
  try clear hcz28_5
  try clear hcz28_6
  try clear hcz29_0
  try clear hcz29_1
  try clear hcz29_2
  try clear hcz29_3
  try clear hcz29_4
  try clear hcz29_5
  try clear hcz29_6
  try clear hcz31_0
  try clear hcz31_1
  try clear hcz31_2
  try clear hcz31_3
  try clear hcz31_4
  try clear hcz31_5
  try clear hcz31_6
  try clear hcz32_0
  try clear hcz32_1
  try clear hcz32_2
  try clear hcz32_3
  try clear hcz32_4
  try clear hcz32_5
  try clear hcz32_6
  try clear hfz12_0
  try clear hfz12_1
  try clear hfz12_2
  try clear hfz12_3
  try clear hfz12_4
  try clear hfz12_5
  try clear hfz12_6
  try clear hfz13_0
  try clear hfz13_1
  try clear hfz13_2
  try clear hfz13_3
  try clear hfz13_4
  try clear hfz13_5
  try clear hfz13_6
  try clear hfz15_0
  try clear hfz15_1
  try clear hfz15_2
  try clear hfz15_3
  try clear hfz15_4
  try clear hfz15_5
  try clear hfz15_6
  try clear hfz16_0
  try clear hfz16_1
  try clear hfz16_2
  try clear hfz16_3
  try clear hfz16_4
  try clear hfz16_5
  try clear hfz16_6
  try clear hfz18_0
  try clear hfz18_1
  try clear hfz18_2
  try clear hfz18_3
  try clear hfz18_4
  try clear hfz18_5
  try clear hfz18_6
  try clear hfz19_0
  try clear hfz19_1
  try clear hfz19_2
  try clear hfz19_3
  try clear hfz19_4
  try clear hfz19_5
  try clear hfz19_6
  try clear hfz21_0
  try clear hfz21_1
  try clear hfz21_2
  try clear hfz21_3
  try clear hfz21_4
  try clear hfz21_5
  try clear hfz21_6
  try clear hfz22_0
  try clear hfz22_1
  try clear hfz22_2
  try clear hfz22_3
  try clear hfz22_4
  try clear hfz22_5
  try clear hfz22_6
  try clear hfz24_0
  try clear hfz24_1
  try clear hfz24_2
  try clear hfz24_3
  try clear hfz24_4
  try clear hfz24_5
  try clear hfz24_6
  try clear hfz25_0
  try clear hfz25_1
  try clear hfz25_2
  try clear hfz25_3
  try clear hfz25_4
  try clear hfz25_5
  try clear hfz25_6
  try clear hfz28_0
  try clear hfz28_1
  try clear hfz28_2
  try clear hfz28_3
  try clear hfz28_4
  try clear hfz28_5
  try clear hfz28_6
  try clear hfz29_0
  try clear hfz29_1
  try clear hfz29_2
  try clear hfz29_3
  try clear hfz29_4
  try clear hfz29_5
  try clear hfz29_6
  try clear hfz31_0
  try clear hfz31_1
  try clear hfz31_2
  try clear hfz31_3
  try clear hfz31_4
  try clear hfz31_5
  try clear hfz31_6
  try clear hfz32_0
  try clear hfz32_1
  try clear hfz32_2
  try clear hfz32_3
  try clear hfz32_4
  try clear hfz32_5
  try clear hfz32_6
  obtain ⟨kq, x41_2, rfl, HA, HJ2, BK190, BK191, HB⟩ := hcut
  cases kq with
  | zero => exact absurd HA.out (by simp [sequentref02_Exact.j0])
  | succ kj2 =>
   have H := HA.out
   clear HA
   simp only [sequentref02_Exact.j0] at H
   by_cases c33 : x41_2 = true
   ·subst c33
    have H1 : (some false) = some r := by rw [if_pos rfl] at H; exact H
    clear H
    have H := H1
    clear H1
    obtain rfl := Option.some.inj H
    go_wp2
    go_ret
    exact ⟨by first | rfl | (simp [errW_none, errW_some] <;> rfl) | (simp [*, errW_none, errW_some] <;> rfl), bel_⟩
   ·replace c33 := Bool.eq_false_iff.mpr c33
    subst c33
    have H1 : (sequentref02_Exact.l0 kj2 0 a0_0 a0_1 a0_2 a0_3 l0_4 a0_5 l0_6 a1_0 a1_1 a1_2 a1_3 l1_4 a1_5 l1_6) = some r := by rw [if_neg (show ¬ (false = true) by decide)] at H; exact H
    clear H
    have H := H1
    clear H1
    have H' := Aside0.mk H
    clear H
    go_wp2
    go_loopg [5] kj2 (fun kq v5 w' => ∃ (x5_2 : Int), v5 = .int .i64 x5_2 ∧ Aside0 (sequentref02_Exact.l0 kq x5_2 a0_0 a0_1 a0_2 a0_3 l0_4 a0_5 l0_6 a1_0 a1_1 a1_2 a1_3 l1_4 a1_5 l1_6 = some r) ∧ Aside0 (kq ≤ kj2) ∧ Aside0 (w'.heap[gb190]? = some (.cells #[.int .u8 a0_0, .string a0_1, .bool a0_2, .string a0_3, (.slice A0_4 l0_4.length c0_4), .int .i64 a0_5, (.slice A0_6 l0_6.length c0_6)] 27 (0, 0))) ∧ Aside0 (w'.heap[gb191]? = some (.cells #[.int .u8 a1_0, .string a1_1, .bool a1_2, .string a1_3, (.slice A1_4 l1_4.length c1_4), .int .i64 a1_5, (.slice A1_6 l1_6.length c1_6)] 27 (0, 0))) ∧ Aside0 (Below w.heap.size w w'))
    case atStart => exact ⟨(0), (by first | rfl | (simp; done) | (simp [*]; done)), H', ⟨Nat.le_refl _⟩, ⟨bk_ BK190⟩, ⟨bk_ BK191⟩, ⟨bel_⟩⟩
    case round =>
     clear H'
     try clear c1
     try clear c2
     try clear p2
     try clear c3
     try clear c6
     try clear c6b0
     try clear c6b1
     try clear c7
     try clear c7b0
     try clear c7b1
     try clear c9
     try clear c10
     try clear c10b0
     try clear c10b1
     try clear c11
     try clear c17
     try clear c23
     try clear c27
     try clear c30
     try clear c33
     try clear hcz12_0
     try clear hcz12_1
     try clear hcz12_2
     try clear hcz12_3
     try clear hcz12_4
     try clear hcz12_5
     try clear hcz12_6
     try clear hcz13_0
     try clear hcz13_1
     try clear hcz13_2
     try clear hcz13_3
     try clear hcz13_4
     try clear hcz13_5
     try clear hcz13_6
     try clear hcz15_0
     try clear hcz15_1
     try clear hcz15_2
     try clear hcz15_3
     try clear hcz15_4
     try clear hcz15_5
     try clear hcz15_6
     try clear hcz16_0
     try clear hcz16_1
     try clear hcz16_2
     try clear hcz16_3
     try clear hcz16_4
     try clear hcz16_5
     try clear hcz16_6
     try clear hcz18_0
     try clear hcz18_1
     try clear hcz18_2
     try clear hcz18_3
     try clear hcz18_4
     try clear hcz18_5
     try clear hcz18_6
     try clear hcz19_0
     try clear hcz19_1
     try clear hcz19_2
     try clear hcz19_3
     try clear hcz19_4
     try clear hcz19_5
     try clear hcz19_6
     try clear hcz21_0
     try clear hcz21_1
     try clear hcz21_2
     try clear hcz21_3
     try clear hcz21_4
     try clear hcz21_5
     try clear hcz21_6
     try clear hcz22_0
     try clear hcz22_1
     try clear hcz22_2
     try clear hcz22_3
     try clear hcz22_4
     try clear hcz22_5
     try clear hcz22_6
     try clear hcz24_0
     try clear hcz24_1
     try clear hcz24_2
     try clear hcz24_3
     try clear hcz24_4
     try clear hcz24_5
     try clear hcz24_6
     try clear hcz25_0
     try clear hcz25_1
     try clear hcz25_2
     try clear hcz25_3
     try clear hcz25_4
     try clear hcz25_5
     try clear hcz25_6
     try clear hcz28_0
     try clear hcz28_1
     try clear hcz28_2
     try clear hcz28_3
     try clear hcz28_4
     try clear hcz28_5
     try clear hcz28_6
     try clear hcz29_0
     try clear hcz29_1
     try clear hcz29_2
     try clear hcz29_3
     try clear hcz29_4
     try clear hcz29_5
     try clear hcz29_6
     try clear hcz31_0
     try clear hcz31_1
     try clear hcz31_2
     try clear hcz31_3
     try clear hcz31_4
     try clear hcz31_5
     try clear hcz31_6
     try clear hcz32_0
     try clear hcz32_1
     try clear hcz32_2
     try clear hcz32_3
     try clear hcz32_4
     try clear hcz32_5
     try clear hcz32_6
     try clear hfz12_0
     try clear hfz12_1
     try clear hfz12_2
     try clear hfz12_3
     try clear hfz12_4
     try clear hfz12_5
     try clear hfz12_6
     try clear hfz13_0
     try clear hfz13_1
     try clear hfz13_2
     try clear hfz13_3
     try clear hfz13_4
     try clear hfz13_5
     try clear hfz13_6
     try clear hfz15_0
     try clear hfz15_1
     try clear hfz15_2
     try clear hfz15_3
     try clear hfz15_4
     try clear hfz15_5
     try clear hfz15_6
     try clear hfz16_0
     try clear hfz16_1
     try clear hfz16_2
     try clear hfz16_3
     try clear hfz16_4
     try clear hfz16_5
     try clear hfz16_6
     try clear hfz18_0
     try clear hfz18_1
     try clear hfz18_2
     try clear hfz18_3
     try clear hfz18_4
     try clear hfz18_5
     try clear hfz18_6
     try clear hfz19_0
     try clear hfz19_1
     try clear hfz19_2
     try clear hfz19_3
     try clear hfz19_4
     try clear hfz19_5
     try clear hfz19_6
     try clear hfz21_0
     try clear hfz21_1
     try clear hfz21_2
     try clear hfz21_3
     try clear hfz21_4
     try clear hfz21_5
     try clear hfz21_6
     try clear hfz22_0
     try clear hfz22_1
     try clear hfz22_2
     try clear hfz22_3
     try clear hfz22_4
     try clear hfz22_5
     try clear hfz22_6
     try clear hfz24_0
     try clear hfz24_1
     try clear hfz24_2
     try clear hfz24_3
     try clear hfz24_4
     try clear hfz24_5
     try clear hfz24_6
     try clear hfz25_0
     try clear hfz25_1
     try clear hfz25_2
     try clear hfz25_3
     try clear hfz25_4
     try clear hfz25_5
     try clear hfz25_6
     try clear hfz28_0
     try clear hfz28_1
     try clear hfz28_2
     try clear hfz28_3
     try clear hfz28_4
     try clear hfz28_5
     try clear hfz28_6
     try clear hfz29_0
     try clear hfz29_1
     try clear hfz29_2
     try clear hfz29_3
     try clear hfz29_4
     try clear hfz29_5
     try clear hfz29_6
     try clear hfz31_0
     try clear hfz31_1
     try clear hfz31_2
     try clear hfz31_3
     try clear hfz31_4
     try clear hfz31_5
     try clear hfz31_6
     try clear hfz32_0
     try clear hfz32_1
     try clear hfz32_2
     try clear hfz32_3
     try clear hfz32_4
     try clear hfz32_5
     try clear hfz32_6
     try clear p2
     obtain ⟨x5_2, rfl, HA, HK2, BK190, BK191, HB⟩ := hrel
     cases gk with
     | zero => exact absurd HA.out (by simp [sequentref02_Exact.l0])
     | succ k2 =>
      have H := HA.out
      clear HA
      simp only [sequentref02_Exact.l0] at H
      by_cases c34 : x5_2 < (l0_6.length : Int)
      ·rw [if_pos c34] at H
       have c34b0 : decide (x5_2 < (l0_6.length : Int)) = true := decide_eq_true c34
       clear c34
       by_cases c35 : 0 ≤ x5_2
       ·rw [if_pos c35] at H
        have c35b0 : decide (0 ≤ x5_2) = true := decide_eq_true c35
        clear c35
        by_cases c36 : x5_2 < (l1_6.length : Int)
        ·rw [if_pos c36] at H
         have c36b0 : decide (x5_2 < (l1_6.length : Int)) = true := decide_eq_true c36
         clear c36
         replace H := Option.bind_eq_some_iff.mp H
         obtain ⟨t195, A370, H⟩ := H
         replace H : (if t195 = true then (sequentref02_Exact.l0 k2 (wrap64 (x5_2 + 1)) a0_0 a0_1 a0_2 a0_3 l0_4 a0_5 l0_6 a1_0 a1_1 a1_2 a1_3 l1_4 a1_5 l1_6) else (some false)) = some r := H
         have A37 := Aside0.mk A370
         clear A370
         by_cases c38 : t195 = true
         ·subst c38
          have H1 : (sequentref02_Exact.l0 k2 (wrap64 (x5_2 + 1)) a0_0 a0_1 a0_2 a0_3 l0_4 a0_5 l0_6 a1_0 a1_1 a1_2 a1_3 l1_4 a1_5 l1_6) = some r := by rw [if_pos rfl] at H; exact H
          clear H
          have H := H1
          clear H1
          have H' := Aside0.mk H
          clear H
          have hnb39 := NB190_191.out
          have hnc39 := NB191_190.out
          have hcz40_0 : wr.cell? ⟨gb190, 0, none⟩ = some (.int .u8 a0_0) := (blk_cell BK190.out 0).trans rfl
          have hcz40_1 : wr.cell? ⟨gb190, 1, none⟩ = some (.string a0_1) := (blk_cell BK190.out 1).trans rfl
          have hcz40_2 : wr.cell? ⟨gb190, 2, none⟩ = some (.bool a0_2) := (blk_cell BK190.out 2).trans rfl
          have hcz40_3 : wr.cell? ⟨gb190, 3, none⟩ = some (.string a0_3) := (blk_cell BK190.out 3).trans rfl
          have hcz40_4 : wr.cell? ⟨gb190, 4, none⟩ = some (.slice A0_4 l0_4.length c0_4) := (blk_cell BK190.out 4).trans rfl
          have hcz40_5 : wr.cell? ⟨gb190, 5, none⟩ = some (.int .i64 a0_5) := (blk_cell BK190.out 5).trans rfl
          have hcz40_6 : wr.cell? ⟨gb190, 6, none⟩ = some (.slice A0_6 l0_6.length c0_6) := (blk_cell BK190.out 6).trans rfl
          have hfz40_0 := blk_frozen BK190.out 0
          have hfz40_1 := blk_frozen BK190.out 1
          have hfz40_2 := blk_frozen BK190.out 2
          have hfz40_3 := blk_frozen BK190.out 3
          have hfz40_4 := blk_frozen BK190.out 4
          have hfz40_5 := blk_frozen BK190.out 5
          have hfz40_6 := blk_frozen BK190.out 6
          try go_wp2
          have n0_ := Aside0.mk (blk_drew BK190.out)
          have n1_ := Aside0.mk (blk_drew BK191.out)
          have n2_ := Aside0.mk (below_drew1 HB.out)
          clear BK190
          clear BK191
          clear HB
          have BK190 := n0_
          have BK191 := n1_
          have HB := n2_
          clear n0_ n1_ n2_
          have p193 : 0 ≤ (x5_2 : Int) := dq_
          have q193 : x5_2 < (l0_6.length : Int) := dq_
          obtain ⟨ad193, A193_4, c193_4, A193_6, c193_6, e193, hx193_0, hx193_1, hx193_2, hx193_3, hx193_4, hx193_5, hx193_6, hl193_4, hi193_4, hl193_6, hi193_6⟩ := at_T27 HR0_6.out x5_2 p193 q193
          have hw193_6 := hx193_6
          have hw193_5 := hx193_5
          have hw193_4 := hx193_4
          have hw193_3 := hx193_3
          have hw193_2 := hx193_2
          have hw193_1 := hx193_1
          have hw193_0 := hx193_0
          cases e193
          replace hx193_0 := pw_cell_below HB.out hx193_0
          replace hx193_1 := pw_cell_below HB.out hx193_1
          replace hx193_2 := pw_cell_below HB.out hx193_2
          replace hx193_3 := pw_cell_below HB.out hx193_3
          replace hx193_4 := pw_cell_below HB.out hx193_4
          replace hx193_5 := pw_cell_below HB.out hx193_5
          replace hx193_6 := pw_cell_below HB.out hx193_6
          have HR193_4 := Aside0.mk hi193_4
          have HC193_4 := Aside0.mk hl193_4
          clear hi193_4 hl193_4
          have HR193_6 := Aside0.mk hi193_6
          have HC193_6 := Aside0.mk hl193_6
          clear hi193_6 hl193_6
          replace p193 := eq_true p193
          replace q193 := eq_true q193
          have p194 : 0 ≤ (x5_2 : Int) := dq_
          have q194 : x5_2 < (l1_6.length : Int) := dq_
          obtain ⟨ad194, A194_4, c194_4, A194_6, c194_6, e194, hx194_0, hx194_1, hx194_2, hx194_3, hx194_4, hx194_5, hx194_6, hl194_4, hi194_4, hl194_6, hi194_6⟩ := at_T27 HR1_6.out x5_2 p194 q194
          have hw194_6 := hx194_6
          have hw194_5 := hx194_5
          have hw194_4 := hx194_4
          have hw194_3 := hx194_3
          have hw194_2 := hx194_2
          have hw194_1 := hx194_1
          have hw194_0 := hx194_0
          cases e194
          replace hx194_0 := pw_cell_below HB.out hx194_0
          replace hx194_1 := pw_cell_below HB.out hx194_1
          replace hx194_2 := pw_cell_below HB.out hx194_2
          replace hx194_3 := pw_cell_below HB.out hx194_3
          replace hx194_4 := pw_cell_below HB.out hx194_4
          replace hx194_5 := pw_cell_below HB.out hx194_5
          replace hx194_6 := pw_cell_below HB.out hx194_6
          have HR194_4 := Aside0.mk hi194_4
          have HC194_4 := Aside0.mk hl194_4
          clear hi194_4 hl194_4
          have HR194_6 := Aside0.mk hi194_6
          have HC194_6 := Aside0.mk hl194_6
          clear hi194_6 hl194_6
          replace p194 := eq_true p194
          replace q194 := eq_true q194
          refine start_ (n := 12) (S := fun w' => w'.cell? ⟨gb190, 0, none⟩ = some (.int .u8 a0_0) ∧ w'.cell? ⟨gb190, 1, none⟩ = some (.string a0_1) ∧ w'.cell? ⟨gb190, 2, none⟩ = some (.bool a0_2) ∧ w'.cell? ⟨gb190, 3, none⟩ = some (.string a0_3) ∧ w'.cell? ⟨gb190, 4, none⟩ = some (.slice A0_4 l0_4.length c0_4) ∧ w'.cell? ⟨gb190, 5, none⟩ = some (.int .i64 a0_5) ∧ w'.cell? ⟨gb190, 6, none⟩ = some (.slice (some ad193) l0_6.length c0_6) ∧ w'.cell? ⟨gb191, 0, none⟩ = some (.int .u8 a1_0) ∧ w'.cell? ⟨gb191, 1, none⟩ = some (.string a1_1) ∧ w'.cell? ⟨gb191, 2, none⟩ = some (.bool a1_2) ∧ w'.cell? ⟨gb191, 3, none⟩ = some (.string a1_3) ∧ w'.cell? ⟨gb191, 4, none⟩ = some (.slice A1_4 l1_4.length c1_4) ∧ w'.cell? ⟨gb191, 5, none⟩ = some (.int .i64 a1_5) ∧ w'.cell? ⟨gb191, 6, none⟩ = some (.slice (some ad194) l1_6.length c1_6) ∧ w'.cell? (ad193.add ((x5_2).toNat * 7)) = some (.int .u8 ((rd_T27 l0_6 x5_2).f0)) ∧ w'.cell? ⟨(ad193.add ((x5_2).toNat * 7)).block, (ad193.add ((x5_2).toNat * 7)).off + 1, none⟩ = some (.string ((rd_T27 l0_6 x5_2).f1)) ∧ w'.cell? ⟨(ad193.add ((x5_2).toNat * 7)).block, (ad193.add ((x5_2).toNat * 7)).off + 2, none⟩ = some (.bool ((rd_T27 l0_6 x5_2).f2.f0)) ∧ w'.cell? ⟨(ad193.add ((x5_2).toNat * 7)).block, (ad193.add ((x5_2).toNat * 7)).off + 3, none⟩ = some (.string ((rd_T27 l0_6 x5_2).f2.f1)) ∧ w'.cell? ⟨(ad193.add ((x5_2).toNat * 7)).block, (ad193.add ((x5_2).toNat * 7)).off + 4, none⟩ = some (.slice A193_4 ((rd_T27 l0_6 x5_2).f2.f2).length c193_4) ∧ w'.cell? ⟨(ad193.add ((x5_2).toNat * 7)).block, (ad193.add ((x5_2).toNat * 7)).off + 5, none⟩ = some (.int .i64 ((rd_T27 l0_6 x5_2).f3)) ∧ w'.cell? ⟨(ad193.add ((x5_2).toNat * 7)).block, (ad193.add ((x5_2).toNat * 7)).off + 6, none⟩ = some (.slice A193_6 ((rd_T27 l0_6 x5_2).f4).length c193_6) ∧ w'.cell? (ad194.add ((x5_2).toNat * 7)) = some (.int .u8 ((rd_T27 l1_6 x5_2).f0)) ∧ w'.cell? ⟨(ad194.add ((x5_2).toNat * 7)).block, (ad194.add ((x5_2).toNat * 7)).off + 1, none⟩ = some (.string ((rd_T27 l1_6 x5_2).f1)) ∧ w'.cell? ⟨(ad194.add ((x5_2).toNat * 7)).block, (ad194.add ((x5_2).toNat * 7)).off + 2, none⟩ = some (.bool ((rd_T27 l1_6 x5_2).f2.f0)) ∧ w'.cell? ⟨(ad194.add ((x5_2).toNat * 7)).block, (ad194.add ((x5_2).toNat * 7)).off + 3, none⟩ = some (.string ((rd_T27 l1_6 x5_2).f2.f1)) ∧ w'.cell? ⟨(ad194.add ((x5_2).toNat * 7)).block, (ad194.add ((x5_2).toNat * 7)).off + 4, none⟩ = some (.slice A194_4 ((rd_T27 l1_6 x5_2).f2.f2).length c194_4) ∧ w'.cell? ⟨(ad194.add ((x5_2).toNat * 7)).block, (ad194.add ((x5_2).toNat * 7)).off + 5, none⟩ = some (.int .i64 ((rd_T27 l1_6 x5_2).f3)) ∧ w'.cell? ⟨(ad194.add ((x5_2).toNat * 7)).block, (ad194.add ((x5_2).toNat * 7)).off + 6, none⟩ = some (.slice A194_6 ((rd_T27 l1_6 x5_2).f4).length c194_6)) (ds := []) #[false, false, false, false, false, false, false, false, false, false, false, false] (by kernel_rfl) rfl rfl ⟨(blk_cell BK190.out 0).trans rfl, (blk_cell BK190.out 1).trans rfl, (blk_cell BK190.out 2).trans rfl, (blk_cell BK190.out 3).trans rfl, (blk_cell BK190.out 4).trans rfl, (blk_cell BK190.out 5).trans rfl, (blk_cell BK190.out 6).trans rfl, (blk_cell BK191.out 0).trans rfl, (blk_cell BK191.out 1).trans rfl, (blk_cell BK191.out 2).trans rfl, (blk_cell BK191.out 3).trans rfl, (blk_cell BK191.out 4).trans rfl, (blk_cell BK191.out 5).trans rfl, (blk_cell BK191.out 6).trans rfl, (pw_cell_below HB.out hw193_0), (pw_cell_below HB.out hw193_1), (pw_cell_below HB.out hw193_2), (pw_cell_below HB.out hw193_3), (pw_cell_below HB.out hw193_4), (pw_cell_below HB.out hw193_5), (pw_cell_below HB.out hw193_6), (pw_cell_below HB.out hw194_0), (pw_cell_below HB.out hw194_1), (pw_cell_below HB.out hw194_2), (pw_cell_below HB.out hw194_3), (pw_cell_below HB.out hw194_4), (pw_cell_below HB.out hw194_5), (pw_cell_below HB.out hw194_6)⟩ (fun hHeld => ?_); refine with_tabW sequentref02_Exact.tab6 sequentref02_Exact.bits6 (fun HT_ HW_ => ?_)
          generalize wr.drew = w41 at BK190 BK191 HB HR193_4 HR193_6 HR194_4 HR194_6 hx193_0 hx193_1 hx193_2 hx193_3 hx193_4 hx193_5 hx193_6 hx194_0 hx194_1 hx194_2 hx194_3 hx194_4 hx194_5 hx194_6 hHeld ⊢
          refine pure_ (i := 0) (N := some 49) (v := ?_) (a' := ?_) #[true, false, false, false, false, false, false, false, false, false, false, false] rfl rfl (any_of HT_.out (by kernel_rfl)) (fun _ _ _ h => h) (Or.inl ⟨by rfl, ?_⟩) ?_ ?_
          rotate_left
          ·intro w'
           go_simp
           with_reducible rfl
          rotate_left
          ·simp only [Act.put, List.setIfInBounds_toArray, List.set_cons_zero, List.set_cons_succ, i64_w, i32_w]
           rfl
          refine pure_ (i := 2) (N := some 51) (v := ?_) (a' := ?_) #[true, false, true, false, false, false, false, false, false, false, false, false] rfl rfl (any_of HT_.out (by kernel_rfl)) (fun _ _ _ h => h) (Or.inl ⟨by rfl, ?_⟩) ?_ ?_
          rotate_left
          ·intro w'
           go_simp
           with_reducible rfl
          rotate_left
          ·simp only [Act.put, List.setIfInBounds_toArray, List.set_cons_zero, List.set_cons_succ, i64_w, i32_w]
           rfl
          refine pure_ (i := 5) (N := some 54) (v := ?_) (a' := ?_) #[true, false, true, false, false, true, false, false, false, false, false, false] rfl rfl (any_of HT_.out (by kernel_rfl)) (fun _ _ _ h => h) (Or.inl ⟨by rfl, ?_⟩) ?_ ?_
          rotate_left
          ·intro w'
           go_simp
           with_reducible rfl
          rotate_left
          ·simp only [Act.put, List.setIfInBounds_toArray, List.set_cons_zero, List.set_cons_succ, i64_w, i32_w]
           rfl
          refine pure_ (i := 7) (N := some 56) (v := ?_) (a' := ?_) #[true, false, true, false, false, true, false, true, false, false, false, false] rfl rfl (any_of HT_.out (by kernel_rfl)) (fun _ _ _ h => h) (Or.inl ⟨by rfl, ?_⟩) ?_ ?_
          rotate_left
          ·intro w'
           go_simp
           with_reducible rfl
          rotate_left
          ·simp only [Act.put, List.setIfInBounds_toArray, List.set_cons_zero, List.set_cons_succ, i64_w, i32_w]
           rfl
          refine take_ (i := 1) (N := some 50) (v := ?_) (a' := ?_) #[true, true, true, false, false, true, false, true, false, false, false, false] rfl rfl (take_ofW HT_.out HW_.out (by kernel_rfl)) (fun _ _ _ h => h) (Or.inl ⟨by rfl, ?_⟩) hHeld ?_ ?_
          rotate_left
          ·rintro w' ⟨s0, s1, s2, s3, s4, s5, s6, s7, s8, s9, s10, s11, s12, s13, s14, s15, s16, s17, s18, s19, s20, s21, s22, s23, s24, s25, s26, s27⟩
           go_simp
           with_reducible rfl
          rotate_left
          ·simp only [Act.put, List.setIfInBounds_toArray, List.set_cons_zero, List.set_cons_succ, i64_w, i32_w]
           rfl
          refine pure_ (i := 3) (N := some 52) (v := ?_) (a' := ?_) #[true, true, true, true, false, true, false, true, false, false, false, false] rfl rfl (any_of HT_.out (by kernel_rfl)) (fun _ _ _ h => h) (Or.inl ⟨by rfl, ?_⟩) ?_ ?_
          rotate_left
          ·intro w'
           go_simp
           with_reducible rfl
          rotate_left
          ·simp only [Act.put, List.setIfInBounds_toArray, List.set_cons_zero, List.set_cons_succ, i64_w, i32_w]
           rfl
          refine take_ (i := 4) (N := some 53) (v := ?_) (a' := ?_) #[true, true, true, true, true, true, false, true, false, false, false, false] rfl rfl (take_ofW HT_.out HW_.out (by kernel_rfl)) (fun _ _ _ h => h) (Or.inl ⟨by rfl, ?_⟩) hHeld ?_ ?_
          rotate_left
          ·rintro w' ⟨s0, s1, s2, s3, s4, s5, s6, s7, s8, s9, s10, s11, s12, s13, s14, s15, s16, s17, s18, s19, s20, s21, s22, s23, s24, s25, s26, s27⟩
           go_simp
           with_reducible rfl
          rotate_left
          ·simp only [Act.put, List.setIfInBounds_toArray, List.set_cons_zero, List.set_cons_succ, i64_w, i32_w]
           rfl
          refine take_ (i := 6) (N := some 55) (v := ?_) (a' := ?_) #[true, true, true, true, true, true, true, true, false, false, false, false] rfl rfl (take_ofW HT_.out HW_.out (by kernel_rfl)) (fun _ _ _ h => h) (Or.inl ⟨by rfl, ?_⟩) hHeld ?_ ?_
          rotate_left
          ·rintro w' ⟨s0, s1, s2, s3, s4, s5, s6, s7, s8, s9, s10, s11, s12, s13, s14, s15, s16, s17, s18, s19, s20, s21, s22, s23, s24, s25, s26, s27⟩
           go_simp
           with_reducible rfl
          rotate_left
          ·simp only [Act.put, List.setIfInBounds_toArray, List.set_cons_zero, List.set_cons_succ, i64_w, i32_w]
           rfl
          refine pure_ (i := 8) (N := some 57) (v := ?_) (a' := ?_) #[true, true, true, true, true, true, true, true, true, false, false, false] rfl rfl (any_of HT_.out (by kernel_rfl)) (fun _ _ _ h => h) (Or.inl ⟨by rfl, ?_⟩) ?_ ?_
          rotate_left
          ·intro w'
           go_simp
           with_reducible rfl
          rotate_left
          ·simp only [Act.put, List.setIfInBounds_toArray, List.set_cons_zero, List.set_cons_succ, i64_w, i32_w]
           rfl
          refine take_ (i := 9) (N := some 58) (v := ?_) (a' := ?_) #[true, true, true, true, true, true, true, true, true, true, false, false] rfl rfl (take_ofW HT_.out HW_.out (by kernel_rfl)) (fun _ _ _ h => h) (Or.inl ⟨by rfl, ?_⟩) hHeld ?_ ?_
          rotate_left
          ·rintro w' ⟨s0, s1, s2, s3, s4, s5, s6, s7, s8, s9, s10, s11, s12, s13, s14, s15, s16, s17, s18, s19, s20, s21, s22, s23, s24, s25, s26, s27⟩
           go_simp
           with_reducible rfl
          rotate_left
          ·simp only [Act.put, List.setIfInBounds_toArray, List.set_cons_zero, List.set_cons_succ, i64_w, i32_w]
           rfl
          refine one_ (i := 10) (N := some 59) #[true, true, true, true, true, true, true, true, true, true, true, false] rfl rfl (one_of HT_.out (by kernel_rfl)) (by decide) (fun K hK => ?_)
          refine goes_ Try.func34 (by kernel_rfl) rfl #[.agg #[.int .u8 ((rd_T27 l0_6 x5_2).f0), .string ((rd_T27 l0_6 x5_2).f1), .bool ((rd_T27 l0_6 x5_2).f2.f0), .string ((rd_T27 l0_6 x5_2).f2.f1), .slice A193_4 ((rd_T27 l0_6 x5_2).f2.f2).length c193_4, .int .i64 ((rd_T27 l0_6 x5_2).f3), .slice A193_6 ((rd_T27 l0_6 x5_2).f4).length c193_6], .agg #[.int .u8 ((rd_T27 l1_6 x5_2).f0), .string ((rd_T27 l1_6 x5_2).f1), .bool ((rd_T27 l1_6 x5_2).f2.f0), .string ((rd_T27 l1_6 x5_2).f2.f1), .slice A194_4 ((rd_T27 l1_6 x5_2).f2.f2).length c194_4, .int .i64 ((rd_T27 l1_6 x5_2).f3), .slice A194_6 ((rd_T27 l1_6 x5_2).f4).length c194_6]] (by rfl) rfl rfl (by (try simp only [List.map_toArray, List.map_cons, List.map_nil]); first | done | rfl | (simp only [List.length_drop, List.length_take]; rfl)) ?_
          with_reducible refine (ih k2 (by have := HJ2.out; have := HK2.out; omega) ((rd_T27 l0_6 x5_2).f0) ((rd_T27 l0_6 x5_2).f1) ((rd_T27 l0_6 x5_2).f2.f0) ((rd_T27 l0_6 x5_2).f2.f1) _ _ ((rd_T27 l0_6 x5_2).f2.f2) ((rd_T27 l0_6 x5_2).f3) _ _ ((rd_T27 l0_6 x5_2).f4) ((rd_T27 l1_6 x5_2).f0) ((rd_T27 l1_6 x5_2).f1) ((rd_T27 l1_6 x5_2).f2.f0) ((rd_T27 l1_6 x5_2).f2.f1) _ _ ((rd_T27 l1_6 x5_2).f2.f2) ((rd_T27 l1_6 x5_2).f3) _ _ ((rd_T27 l1_6 x5_2).f4) true _ ?side1 ?side2 ?side3 ?side4 ?side5 ?side6 ?side7 ?side8 A37.out).mono ?_
          (case side1 => repeat (first | exact (Kd.C_below HR193_4.out HB.out) | (with_reducible refine Kd.C_alloc ?_ _) | (with_reducible refine Kd.C_drewN ?_ _) | (with_reducible refine Kd.C_drew ?_)))
          (case side2 => exact HC193_4.out)
          (case side3 => repeat (first | exact (Kd.C_below HR193_6.out HB.out) | (with_reducible refine Kd.C_alloc ?_ _) | (with_reducible refine Kd.C_drewN ?_ _) | (with_reducible refine Kd.C_drew ?_)))
          (case side4 => exact HC193_6.out)
          (case side5 => repeat (first | exact (Kd.C_below HR194_4.out HB.out) | (with_reducible refine Kd.C_alloc ?_ _) | (with_reducible refine Kd.C_drewN ?_ _) | (with_reducible refine Kd.C_drew ?_)))
          (case side6 => exact HC194_4.out)
          (case side7 => repeat (first | exact (Kd.C_below HR194_6.out HB.out) | (with_reducible refine Kd.C_alloc ?_ _) | (with_reducible refine Kd.C_drewN ?_ _) | (with_reducible refine Kd.C_drew ?_)))
          (case side8 => exact HC194_6.out)
          rintro e w42 ⟨rfl, hb⟩
          refine ⟨_, rfl, ?_⟩
          have n0_ := Aside0.mk (blk_below (g := gb190) (o := .cells #[.int .u8 a0_0, .string a0_1, .bool a0_2, .string a0_3, .slice A0_4 l0_4.length c0_4, .int .i64 a0_5, .slice (some ad193) l0_6.length c0_6] 27 (0, 0)) (bk_ BK190) hb)
          have n1_ := Aside0.mk (blk_below (g := gb191) (o := .cells #[.int .u8 a1_0, .string a1_1, .bool a1_2, .string a1_3, .slice A1_4 l1_4.length c1_4, .int .i64 a1_5, .slice (some ad194) l1_6.length c1_6] 27 (0, 0)) (bk_ BK191) hb)
          have n2_ := Aside0.mk (below_step bel_ hb)
          clear BK190
          clear BK191
          clear HB
          have BK190 := n0_
          have BK191 := n1_
          have HB := n2_
          clear n0_ n1_ n2_
          (try clear hb)
          (try clear hb2)
          (try clear hk)
          (try clear hi)
          refine hK.out _ _ ⟨(blk_cell BK190.out 0).trans rfl, (blk_cell BK190.out 1).trans rfl, (blk_cell BK190.out 2).trans rfl, (blk_cell BK190.out 3).trans rfl, (blk_cell BK190.out 4).trans rfl, (blk_cell BK190.out 5).trans rfl, (blk_cell BK190.out 6).trans rfl, (blk_cell BK191.out 0).trans rfl, (blk_cell BK191.out 1).trans rfl, (blk_cell BK191.out 2).trans rfl, (blk_cell BK191.out 3).trans rfl, (blk_cell BK191.out 4).trans rfl, (blk_cell BK191.out 5).trans rfl, (blk_cell BK191.out 6).trans rfl, (pw_cell_below HB.out hw193_0), (pw_cell_below HB.out hw193_1), (pw_cell_below HB.out hw193_2), (pw_cell_below HB.out hw193_3), (pw_cell_below HB.out hw193_4), (pw_cell_below HB.out hw193_5), (pw_cell_below HB.out hw193_6), (pw_cell_below HB.out hw194_0), (pw_cell_below HB.out hw194_1), (pw_cell_below HB.out hw194_2), (pw_cell_below HB.out hw194_3), (pw_cell_below HB.out hw194_4), (pw_cell_below HB.out hw194_5), (pw_cell_below HB.out hw194_6)⟩ (fun hHeld => ?_)
          clear hK K
          refine norm_ (a' := ?_) ?_ ?_
          rotate_left
          ·show Act.put _ (some 59) _ = _
           simp only [Act.put, List.setIfInBounds_toArray, List.set_cons_zero, List.set_cons_succ, i64_w, i32_w]
           rfl
          refine pure_ (i := 11) (N := some 60) (v := ?_) (a' := ?_) #[true, true, true, true, true, true, true, true, true, true, true, true] rfl rfl (any_of HT_.out (by kernel_rfl)) (fun _ _ _ h => h) (Or.inl ⟨by rfl, ?_⟩) ?_ ?_
          rotate_left
          ·intro w'
           go_simp
           with_reducible rfl
          rotate_left
          ·simp only [Act.put, List.setIfInBounds_toArray, List.set_cons_zero, List.set_cons_succ, i64_w, i32_w]
           rfl
          refine done_ (done_of HT_.out (by kernel_rfl)) ?_
          try go_wp2
          go_roundg k2
          case measure => have := HJ2.out; have := HK2.out; omega
          case rel => exact ⟨(wrap64 (x5_2 + 1)), (by first | rfl | (simp; done) | (simp [*]; done)), H', ⟨by have := HJ2.out; have := HK2.out; omega⟩, ⟨bk_ BK190⟩, ⟨bk_ BK191⟩, ⟨bel_⟩⟩
         ·replace c38 := Bool.eq_false_iff.mpr c38
          subst c38
          have H1 : (some false) = some r := by rw [if_neg (show ¬ (false = true) by decide)] at H; exact H
          clear H
          have H := H1
          clear H1
          obtain rfl := Option.some.inj H
          have hnb43 := NB190_191.out
          have hnc43 := NB191_190.out
          have hcz44_0 : wr.cell? ⟨gb190, 0, none⟩ = some (.int .u8 a0_0) := (blk_cell BK190.out 0).trans rfl
          have hcz44_1 : wr.cell? ⟨gb190, 1, none⟩ = some (.string a0_1) := (blk_cell BK190.out 1).trans rfl
          have hcz44_2 : wr.cell? ⟨gb190, 2, none⟩ = some (.bool a0_2) := (blk_cell BK190.out 2).trans rfl
          have hcz44_3 : wr.cell? ⟨gb190, 3, none⟩ = some (.string a0_3) := (blk_cell BK190.out 3).trans rfl
          have hcz44_4 : wr.cell? ⟨gb190, 4, none⟩ = some (.slice A0_4 l0_4.length c0_4) := (blk_cell BK190.out 4).trans rfl
          have hcz44_5 : wr.cell? ⟨gb190, 5, none⟩ = some (.int .i64 a0_5) := (blk_cell BK190.out 5).trans rfl
          have hcz44_6 : wr.cell? ⟨gb190, 6, none⟩ = some (.slice A0_6 l0_6.length c0_6) := (blk_cell BK190.out 6).trans rfl
          have hfz44_0 := blk_frozen BK190.out 0
          have hfz44_1 := blk_frozen BK190.out 1
          have hfz44_2 := blk_frozen BK190.out 2
          have hfz44_3 := blk_frozen BK190.out 3
          have hfz44_4 := blk_frozen BK190.out 4
          have hfz44_5 := blk_frozen BK190.out 5
          have hfz44_6 := blk_frozen BK190.out 6
          try go_wp2
          have n0_ := Aside0.mk (blk_drew BK190.out)
          have n1_ := Aside0.mk (blk_drew BK191.out)
          have n2_ := Aside0.mk (below_drew1 HB.out)
          clear BK190
          clear BK191
          clear HB
          have BK190 := n0_
          have BK191 := n1_
          have HB := n2_
          clear n0_ n1_ n2_
          have p193 : 0 ≤ (x5_2 : Int) := dq_
          have q193 : x5_2 < (l0_6.length : Int) := dq_
          obtain ⟨ad193, A193_4, c193_4, A193_6, c193_6, e193, hx193_0, hx193_1, hx193_2, hx193_3, hx193_4, hx193_5, hx193_6, hl193_4, hi193_4, hl193_6, hi193_6⟩ := at_T27 HR0_6.out x5_2 p193 q193
          have hw193_6 := hx193_6
          have hw193_5 := hx193_5
          have hw193_4 := hx193_4
          have hw193_3 := hx193_3
          have hw193_2 := hx193_2
          have hw193_1 := hx193_1
          have hw193_0 := hx193_0
          cases e193
          replace hx193_0 := pw_cell_below HB.out hx193_0
          replace hx193_1 := pw_cell_below HB.out hx193_1
          replace hx193_2 := pw_cell_below HB.out hx193_2
          replace hx193_3 := pw_cell_below HB.out hx193_3
          replace hx193_4 := pw_cell_below HB.out hx193_4
          replace hx193_5 := pw_cell_below HB.out hx193_5
          replace hx193_6 := pw_cell_below HB.out hx193_6
          have HR193_4 := Aside0.mk hi193_4
          have HC193_4 := Aside0.mk hl193_4
          clear hi193_4 hl193_4
          have HR193_6 := Aside0.mk hi193_6
          have HC193_6 := Aside0.mk hl193_6
          clear hi193_6 hl193_6
          replace p193 := eq_true p193
          replace q193 := eq_true q193
          have p194 : 0 ≤ (x5_2 : Int) := dq_
          have q194 : x5_2 < (l1_6.length : Int) := dq_
          obtain ⟨ad194, A194_4, c194_4, A194_6, c194_6, e194, hx194_0, hx194_1, hx194_2, hx194_3, hx194_4, hx194_5, hx194_6, hl194_4, hi194_4, hl194_6, hi194_6⟩ := at_T27 HR1_6.out x5_2 p194 q194
          have hw194_6 := hx194_6
          have hw194_5 := hx194_5
          have hw194_4 := hx194_4
          have hw194_3 := hx194_3
          have hw194_2 := hx194_2
          have hw194_1 := hx194_1
          have hw194_0 := hx194_0
          cases e194
          replace hx194_0 := pw_cell_below HB.out hx194_0
          replace hx194_1 := pw_cell_below HB.out hx194_1
          replace hx194_2 := pw_cell_below HB.out hx194_2
          replace hx194_3 := pw_cell_below HB.out hx194_3
          replace hx194_4 := pw_cell_below HB.out hx194_4
          replace hx194_5 := pw_cell_below HB.out hx194_5
          replace hx194_6 := pw_cell_below HB.out hx194_6
          have HR194_4 := Aside0.mk hi194_4
          have HC194_4 := Aside0.mk hl194_4
          clear hi194_4 hl194_4
          have HR194_6 := Aside0.mk hi194_6
          have HC194_6 := Aside0.mk hl194_6
          clear hi194_6 hl194_6
          replace p194 := eq_true p194
          replace q194 := eq_true q194
          refine start_ (n := 12) (S := fun w' => w'.cell? ⟨gb190, 0, none⟩ = some (.int .u8 a0_0) ∧ w'.cell? ⟨gb190, 1, none⟩ = some (.string a0_1) ∧ w'.cell? ⟨gb190, 2, none⟩ = some (.bool a0_2) ∧ w'.cell? ⟨gb190, 3, none⟩ = some (.string a0_3) ∧ w'.cell? ⟨gb190, 4, none⟩ = some (.slice A0_4 l0_4.length c0_4) ∧ w'.cell? ⟨gb190, 5, none⟩ = some (.int .i64 a0_5) ∧ w'.cell? ⟨gb190, 6, none⟩ = some (.slice (some ad193) l0_6.length c0_6) ∧ w'.cell? ⟨gb191, 0, none⟩ = some (.int .u8 a1_0) ∧ w'.cell? ⟨gb191, 1, none⟩ = some (.string a1_1) ∧ w'.cell? ⟨gb191, 2, none⟩ = some (.bool a1_2) ∧ w'.cell? ⟨gb191, 3, none⟩ = some (.string a1_3) ∧ w'.cell? ⟨gb191, 4, none⟩ = some (.slice A1_4 l1_4.length c1_4) ∧ w'.cell? ⟨gb191, 5, none⟩ = some (.int .i64 a1_5) ∧ w'.cell? ⟨gb191, 6, none⟩ = some (.slice (some ad194) l1_6.length c1_6) ∧ w'.cell? (ad193.add ((x5_2).toNat * 7)) = some (.int .u8 ((rd_T27 l0_6 x5_2).f0)) ∧ w'.cell? ⟨(ad193.add ((x5_2).toNat * 7)).block, (ad193.add ((x5_2).toNat * 7)).off + 1, none⟩ = some (.string ((rd_T27 l0_6 x5_2).f1)) ∧ w'.cell? ⟨(ad193.add ((x5_2).toNat * 7)).block, (ad193.add ((x5_2).toNat * 7)).off + 2, none⟩ = some (.bool ((rd_T27 l0_6 x5_2).f2.f0)) ∧ w'.cell? ⟨(ad193.add ((x5_2).toNat * 7)).block, (ad193.add ((x5_2).toNat * 7)).off + 3, none⟩ = some (.string ((rd_T27 l0_6 x5_2).f2.f1)) ∧ w'.cell? ⟨(ad193.add ((x5_2).toNat * 7)).block, (ad193.add ((x5_2).toNat * 7)).off + 4, none⟩ = some (.slice A193_4 ((rd_T27 l0_6 x5_2).f2.f2).length c193_4) ∧ w'.cell? ⟨(ad193.add ((x5_2).toNat * 7)).block, (ad193.add ((x5_2).toNat * 7)).off + 5, none⟩ = some (.int .i64 ((rd_T27 l0_6 x5_2).f3)) ∧ w'.cell? ⟨(ad193.add ((x5_2).toNat * 7)).block, (ad193.add ((x5_2).toNat * 7)).off + 6, none⟩ = some (.slice A193_6 ((rd_T27 l0_6 x5_2).f4).length c193_6) ∧ w'.cell? (ad194.add ((x5_2).toNat * 7)) = some (.int .u8 ((rd_T27 l1_6 x5_2).f0)) ∧ w'.cell? ⟨(ad194.add ((x5_2).toNat * 7)).block, (ad194.add ((x5_2).toNat * 7)).off + 1, none⟩ = some (.string ((rd_T27 l1_6 x5_2).f1)) ∧ w'.cell? ⟨(ad194.add ((x5_2).toNat * 7)).block, (ad194.add ((x5_2).toNat * 7)).off + 2, none⟩ = some (.bool ((rd_T27 l1_6 x5_2).f2.f0)) ∧ w'.cell? ⟨(ad194.add ((x5_2).toNat * 7)).block, (ad194.add ((x5_2).toNat * 7)).off + 3, none⟩ = some (.string ((rd_T27 l1_6 x5_2).f2.f1)) ∧ w'.cell? ⟨(ad194.add ((x5_2).toNat * 7)).block, (ad194.add ((x5_2).toNat * 7)).off + 4, none⟩ = some (.slice A194_4 ((rd_T27 l1_6 x5_2).f2.f2).length c194_4) ∧ w'.cell? ⟨(ad194.add ((x5_2).toNat * 7)).block, (ad194.add ((x5_2).toNat * 7)).off + 5, none⟩ = some (.int .i64 ((rd_T27 l1_6 x5_2).f3)) ∧ w'.cell? ⟨(ad194.add ((x5_2).toNat * 7)).block, (ad194.add ((x5_2).toNat * 7)).off + 6, none⟩ = some (.slice A194_6 ((rd_T27 l1_6 x5_2).f4).length c194_6)) (ds := []) #[false, false, false, false, false, false, false, false, false, false, false, false] (by kernel_rfl) rfl rfl ⟨(blk_cell BK190.out 0).trans rfl, (blk_cell BK190.out 1).trans rfl, (blk_cell BK190.out 2).trans rfl, (blk_cell BK190.out 3).trans rfl, (blk_cell BK190.out 4).trans rfl, (blk_cell BK190.out 5).trans rfl, (blk_cell BK190.out 6).trans rfl, (blk_cell BK191.out 0).trans rfl, (blk_cell BK191.out 1).trans rfl, (blk_cell BK191.out 2).trans rfl, (blk_cell BK191.out 3).trans rfl, (blk_cell BK191.out 4).trans rfl, (blk_cell BK191.out 5).trans rfl, (blk_cell BK191.out 6).trans rfl, (pw_cell_below HB.out hw193_0), (pw_cell_below HB.out hw193_1), (pw_cell_below HB.out hw193_2), (pw_cell_below HB.out hw193_3), (pw_cell_below HB.out hw193_4), (pw_cell_below HB.out hw193_5), (pw_cell_below HB.out hw193_6), (pw_cell_below HB.out hw194_0), (pw_cell_below HB.out hw194_1), (pw_cell_below HB.out hw194_2), (pw_cell_below HB.out hw194_3), (pw_cell_below HB.out hw194_4), (pw_cell_below HB.out hw194_5), (pw_cell_below HB.out hw194_6)⟩ (fun hHeld => ?_); refine with_tabW sequentref02_Exact.tab6 sequentref02_Exact.bits6 (fun HT_ HW_ => ?_)
          generalize wr.drew = w45 at BK190 BK191 HB HR193_4 HR193_6 HR194_4 HR194_6 hx193_0 hx193_1 hx193_2 hx193_3 hx193_4 hx193_5 hx193_6 hx194_0 hx194_1 hx194_2 hx194_3 hx194_4 hx194_5 hx194_6 hHeld ⊢
          refine pure_ (i := 0) (N := some 49) (v := ?_) (a' := ?_) #[true, false, false, false, false, false, false, false, false, false, false, false] rfl rfl (any_of HT_.out (by kernel_rfl)) (fun _ _ _ h => h) (Or.inl ⟨by rfl, ?_⟩) ?_ ?_
          rotate_left
          ·intro w'
           go_simp
           with_reducible rfl
          rotate_left
          ·simp only [Act.put, List.setIfInBounds_toArray, List.set_cons_zero, List.set_cons_succ, i64_w, i32_w]
           rfl
          refine pure_ (i := 2) (N := some 51) (v := ?_) (a' := ?_) #[true, false, true, false, false, false, false, false, false, false, false, false] rfl rfl (any_of HT_.out (by kernel_rfl)) (fun _ _ _ h => h) (Or.inl ⟨by rfl, ?_⟩) ?_ ?_
          rotate_left
          ·intro w'
           go_simp
           with_reducible rfl
          rotate_left
          ·simp only [Act.put, List.setIfInBounds_toArray, List.set_cons_zero, List.set_cons_succ, i64_w, i32_w]
           rfl
          refine pure_ (i := 5) (N := some 54) (v := ?_) (a' := ?_) #[true, false, true, false, false, true, false, false, false, false, false, false] rfl rfl (any_of HT_.out (by kernel_rfl)) (fun _ _ _ h => h) (Or.inl ⟨by rfl, ?_⟩) ?_ ?_
          rotate_left
          ·intro w'
           go_simp
           with_reducible rfl
          rotate_left
          ·simp only [Act.put, List.setIfInBounds_toArray, List.set_cons_zero, List.set_cons_succ, i64_w, i32_w]
           rfl
          refine pure_ (i := 7) (N := some 56) (v := ?_) (a' := ?_) #[true, false, true, false, false, true, false, true, false, false, false, false] rfl rfl (any_of HT_.out (by kernel_rfl)) (fun _ _ _ h => h) (Or.inl ⟨by rfl, ?_⟩) ?_ ?_
          rotate_left
          ·intro w'
           go_simp
           with_reducible rfl
          rotate_left
          ·simp only [Act.put, List.setIfInBounds_toArray, List.set_cons_zero, List.set_cons_succ, i64_w, i32_w]
           rfl
          refine take_ (i := 1) (N := some 50) (v := ?_) (a' := ?_) #[true, true, true, false, false, true, false, true, false, false, false, false] rfl rfl (take_ofW HT_.out HW_.out (by kernel_rfl)) (fun _ _ _ h => h) (Or.inl ⟨by rfl, ?_⟩) hHeld ?_ ?_
          rotate_left
          ·rintro w' ⟨s0, s1, s2, s3, s4, s5, s6, s7, s8, s9, s10, s11, s12, s13, s14, s15, s16, s17, s18, s19, s20, s21, s22, s23, s24, s25, s26, s27⟩
           go_simp
           with_reducible rfl
          rotate_left
          ·simp only [Act.put, List.setIfInBounds_toArray, List.set_cons_zero, List.set_cons_succ, i64_w, i32_w]
           rfl
          refine pure_ (i := 3) (N := some 52) (v := ?_) (a' := ?_) #[true, true, true, true, false, true, false, true, false, false, false, false] rfl rfl (any_of HT_.out (by kernel_rfl)) (fun _ _ _ h => h) (Or.inl ⟨by rfl, ?_⟩) ?_ ?_
          rotate_left
          ·intro w'
           go_simp
           with_reducible rfl
          rotate_left
          ·simp only [Act.put, List.setIfInBounds_toArray, List.set_cons_zero, List.set_cons_succ, i64_w, i32_w]
           rfl
          refine take_ (i := 4) (N := some 53) (v := ?_) (a' := ?_) #[true, true, true, true, true, true, false, true, false, false, false, false] rfl rfl (take_ofW HT_.out HW_.out (by kernel_rfl)) (fun _ _ _ h => h) (Or.inl ⟨by rfl, ?_⟩) hHeld ?_ ?_
          rotate_left
          ·rintro w' ⟨s0, s1, s2, s3, s4, s5, s6, s7, s8, s9, s10, s11, s12, s13, s14, s15, s16, s17, s18, s19, s20, s21, s22, s23, s24, s25, s26, s27⟩
           go_simp
           with_reducible rfl
          rotate_left
          ·simp only [Act.put, List.setIfInBounds_toArray, List.set_cons_zero, List.set_cons_succ, i64_w, i32_w]
           rfl
          refine take_ (i := 6) (N := some 55) (v := ?_) (a' := ?_) #[true, true, true, true, true, true, true, true, false, false, false, false] rfl rfl (take_ofW HT_.out HW_.out (by kernel_rfl)) (fun _ _ _ h => h) (Or.inl ⟨by rfl, ?_⟩) hHeld ?_ ?_
          rotate_left
          ·rintro w' ⟨s0, s1, s2, s3, s4, s5, s6, s7, s8, s9, s10, s11, s12, s13, s14, s15, s16, s17, s18, s19, s20, s21, s22, s23, s24, s25, s26, s27⟩
           go_simp
           with_reducible rfl
          rotate_left
          ·simp only [Act.put, List.setIfInBounds_toArray, List.set_cons_zero, List.set_cons_succ, i64_w, i32_w]
           rfl
          refine pure_ (i := 8) (N := some 57) (v := ?_) (a' := ?_) #[true, true, true, true, true, true, true, true, true, false, false, false] rfl rfl (any_of HT_.out (by kernel_rfl)) (fun _ _ _ h => h) (Or.inl ⟨by rfl, ?_⟩) ?_ ?_
          rotate_left
          ·intro w'
           go_simp
           with_reducible rfl
          rotate_left
          ·simp only [Act.put, List.setIfInBounds_toArray, List.set_cons_zero, List.set_cons_succ, i64_w, i32_w]
           rfl
          refine take_ (i := 9) (N := some 58) (v := ?_) (a' := ?_) #[true, true, true, true, true, true, true, true, true, true, false, false] rfl rfl (take_ofW HT_.out HW_.out (by kernel_rfl)) (fun _ _ _ h => h) (Or.inl ⟨by rfl, ?_⟩) hHeld ?_ ?_
          rotate_left
          ·rintro w' ⟨s0, s1, s2, s3, s4, s5, s6, s7, s8, s9, s10, s11, s12, s13, s14, s15, s16, s17, s18, s19, s20, s21, s22, s23, s24, s25, s26, s27⟩
           go_simp
           with_reducible rfl
          rotate_left
          ·simp only [Act.put, List.setIfInBounds_toArray, List.set_cons_zero, List.set_cons_succ, i64_w, i32_w]
           rfl
          refine one_ (i := 10) (N := some 59) #[true, true, true, true, true, true, true, true, true, true, true, false] rfl rfl (one_of HT_.out (by kernel_rfl)) (by decide) (fun K hK => ?_)
          refine goes_ Try.func34 (by kernel_rfl) rfl #[.agg #[.int .u8 ((rd_T27 l0_6 x5_2).f0), .string ((rd_T27 l0_6 x5_2).f1), .bool ((rd_T27 l0_6 x5_2).f2.f0), .string ((rd_T27 l0_6 x5_2).f2.f1), .slice A193_4 ((rd_T27 l0_6 x5_2).f2.f2).length c193_4, .int .i64 ((rd_T27 l0_6 x5_2).f3), .slice A193_6 ((rd_T27 l0_6 x5_2).f4).length c193_6], .agg #[.int .u8 ((rd_T27 l1_6 x5_2).f0), .string ((rd_T27 l1_6 x5_2).f1), .bool ((rd_T27 l1_6 x5_2).f2.f0), .string ((rd_T27 l1_6 x5_2).f2.f1), .slice A194_4 ((rd_T27 l1_6 x5_2).f2.f2).length c194_4, .int .i64 ((rd_T27 l1_6 x5_2).f3), .slice A194_6 ((rd_T27 l1_6 x5_2).f4).length c194_6]] (by rfl) rfl rfl (by (try simp only [List.map_toArray, List.map_cons, List.map_nil]); first | done | rfl | (simp only [List.length_drop, List.length_take]; rfl)) ?_
          with_reducible refine (ih k2 (by have := HJ2.out; have := HK2.out; omega) ((rd_T27 l0_6 x5_2).f0) ((rd_T27 l0_6 x5_2).f1) ((rd_T27 l0_6 x5_2).f2.f0) ((rd_T27 l0_6 x5_2).f2.f1) _ _ ((rd_T27 l0_6 x5_2).f2.f2) ((rd_T27 l0_6 x5_2).f3) _ _ ((rd_T27 l0_6 x5_2).f4) ((rd_T27 l1_6 x5_2).f0) ((rd_T27 l1_6 x5_2).f1) ((rd_T27 l1_6 x5_2).f2.f0) ((rd_T27 l1_6 x5_2).f2.f1) _ _ ((rd_T27 l1_6 x5_2).f2.f2) ((rd_T27 l1_6 x5_2).f3) _ _ ((rd_T27 l1_6 x5_2).f4) false _ ?side1 ?side2 ?side3 ?side4 ?side5 ?side6 ?side7 ?side8 A37.out).mono ?_
          (case side1 => repeat (first | exact (Kd.C_below HR193_4.out HB.out) | (with_reducible refine Kd.C_alloc ?_ _) | (with_reducible refine Kd.C_drewN ?_ _) | (with_reducible refine Kd.C_drew ?_)))
          (case side2 => exact HC193_4.out)
          (case side3 => repeat (first | exact (Kd.C_below HR193_6.out HB.out) | (with_reducible refine Kd.C_alloc ?_ _) | (with_reducible refine Kd.C_drewN ?_ _) | (with_reducible refine Kd.C_drew ?_)))
          (case side4 => exact HC193_6.out)
          (case side5 => repeat (first | exact (Kd.C_below HR194_4.out HB.out) | (with_reducible refine Kd.C_alloc ?_ _) | (with_reducible refine Kd.C_drewN ?_ _) | (with_reducible refine Kd.C_drew ?_)))
          (case side6 => exact HC194_4.out)
          (case side7 => repeat (first | exact (Kd.C_below HR194_6.out HB.out) | (with_reducible refine Kd.C_alloc ?_ _) | (with_reducible refine Kd.C_drewN ?_ _) | (with_reducible refine Kd.C_drew ?_)))
          (case side8 => exact HC194_6.out)
          rintro e w46 ⟨rfl, hb⟩
          refine ⟨_, rfl, ?_⟩
          have n0_ := Aside0.mk (blk_below (g := gb190) (o := .cells #[.int .u8 a0_0, .string a0_1, .bool a0_2, .string a0_3, .slice A0_4 l0_4.length c0_4, .int .i64 a0_5, .slice (some ad193) l0_6.length c0_6] 27 (0, 0)) (bk_ BK190) hb)
          have n1_ := Aside0.mk (blk_below (g := gb191) (o := .cells #[.int .u8 a1_0, .string a1_1, .bool a1_2, .string a1_3, .slice A1_4 l1_4.length c1_4, .int .i64 a1_5, .slice (some ad194) l1_6.length c1_6] 27 (0, 0)) (bk_ BK191) hb)
          have n2_ := Aside0.mk (below_step bel_ hb)
          clear BK190
          clear BK191
          clear HB
          have BK190 := n0_
          have BK191 := n1_
          have HB := n2_
          clear n0_ n1_ n2_
          (try clear hb)
          (try clear hb2)
          (try clear hk)
          (try clear hi)
          refine hK.out _ _ ⟨(blk_cell BK190.out 0).trans rfl, (blk_cell BK190.out 1).trans rfl, (blk_cell BK190.out 2).trans rfl, (blk_cell BK190.out 3).trans rfl, (blk_cell BK190.out 4).trans rfl, (blk_cell BK190.out 5).trans rfl, (blk_cell BK190.out 6).trans rfl, (blk_cell BK191.out 0).trans rfl, (blk_cell BK191.out 1).trans rfl, (blk_cell BK191.out 2).trans rfl, (blk_cell BK191.out 3).trans rfl, (blk_cell BK191.out 4).trans rfl, (blk_cell BK191.out 5).trans rfl, (blk_cell BK191.out 6).trans rfl, (pw_cell_below HB.out hw193_0), (pw_cell_below HB.out hw193_1), (pw_cell_below HB.out hw193_2), (pw_cell_below HB.out hw193_3), (pw_cell_below HB.out hw193_4), (pw_cell_below HB.out hw193_5), (pw_cell_below HB.out hw193_6), (pw_cell_below HB.out hw194_0), (pw_cell_below HB.out hw194_1), (pw_cell_below HB.out hw194_2), (pw_cell_below HB.out hw194_3), (pw_cell_below HB.out hw194_4), (pw_cell_below HB.out hw194_5), (pw_cell_below HB.out hw194_6)⟩ (fun hHeld => ?_)
          clear hK K
          refine norm_ (a' := ?_) ?_ ?_
          rotate_left
          ·show Act.put _ (some 59) _ = _
           simp only [Act.put, List.setIfInBounds_toArray, List.set_cons_zero, List.set_cons_succ, i64_w, i32_w]
           rfl
          refine pure_ (i := 11) (N := some 60) (v := ?_) (a' := ?_) #[true, true, true, true, true, true, true, true, true, true, true, true] rfl rfl (any_of HT_.out (by kernel_rfl)) (fun _ _ _ h => h) (Or.inl ⟨by rfl, ?_⟩) ?_ ?_
          rotate_left
          ·intro w'
           go_simp
           with_reducible rfl
          rotate_left
          ·simp only [Act.put, List.setIfInBounds_toArray, List.set_cons_zero, List.set_cons_succ, i64_w, i32_w]
           rfl
          refine done_ (done_of HT_.out (by kernel_rfl)) ?_
          try go_wp2
          go_ret
          exact ⟨by first | rfl | (simp [errW_none, errW_some] <;> rfl) | (simp [*, errW_none, errW_some] <;> rfl), bel_⟩
        ·rw [if_neg c36] at H
         exact absurd H (by simp)
       ·rw [if_neg c35] at H
        exact absurd H (by simp)
      ·rw [if_neg c34] at H
       have c34b0 : decide (x5_2 < (l0_6.length : Int)) = false := decide_eq_false c34
       clear c34
       obtain rfl := Option.some.inj H
       have hnb47 := NB190_191.out
       have hnc47 := NB191_190.out
       have hcz48_0 : wr.cell? ⟨gb190, 0, none⟩ = some (.int .u8 a0_0) := (blk_cell BK190.out 0).trans rfl
       have hcz48_1 : wr.cell? ⟨gb190, 1, none⟩ = some (.string a0_1) := (blk_cell BK190.out 1).trans rfl
       have hcz48_2 : wr.cell? ⟨gb190, 2, none⟩ = some (.bool a0_2) := (blk_cell BK190.out 2).trans rfl
       have hcz48_3 : wr.cell? ⟨gb190, 3, none⟩ = some (.string a0_3) := (blk_cell BK190.out 3).trans rfl
       have hcz48_4 : wr.cell? ⟨gb190, 4, none⟩ = some (.slice A0_4 l0_4.length c0_4) := (blk_cell BK190.out 4).trans rfl
       have hcz48_5 : wr.cell? ⟨gb190, 5, none⟩ = some (.int .i64 a0_5) := (blk_cell BK190.out 5).trans rfl
       have hcz48_6 : wr.cell? ⟨gb190, 6, none⟩ = some (.slice A0_6 l0_6.length c0_6) := (blk_cell BK190.out 6).trans rfl
       have hfz48_0 := blk_frozen BK190.out 0
       have hfz48_1 := blk_frozen BK190.out 1
       have hfz48_2 := blk_frozen BK190.out 2
       have hfz48_3 := blk_frozen BK190.out 3
       have hfz48_4 := blk_frozen BK190.out 4
       have hfz48_5 := blk_frozen BK190.out 5
       have hfz48_6 := blk_frozen BK190.out 6
       go_wp2
       go_ret
       exact ⟨by first | rfl | (simp [errW_none, errW_some] <;> rfl) | (simp [*, errW_none, errW_some] <;> rfl), bel_⟩

end Go.Proofs.Ytecplbgdalchdaa.Q
-- written by a program of this session (wip/tools/myprint.py) out of the translation
namespace Go.Proofs.Ytecplbgdalchdaa.Q
open Go.RowKit Go.Proofs.YtecplbgdalchdaaW.PrintWords Go.Proofs.YtecplbgdalchdaaW.PrintLast Go.Proofs.YtecplbgdalchdaaW.PrintMore
attribute [local go_sem] max2_int min2_int max_two min_two max_three min_three max_four min_four   -- for this text's walks alone
set_option linter.unusedVariables false
set_option linter.unusedSimpArgs false

/-! ### sequentref02_count: function 89 -/
mutual
def sequentref02_count.j0 : Nat → Int → Int → Bool → Int → ByteArray → Bool → ByteArray → List (S24) → Int → List (S27) → Option (Int)
 | 0, _, _, _, _, _, _, _, _, _, _ => none
 | k + 1, x1, x2, x14, x337000, x337001, x337002, x337003, x337004, x337005, x337006 => if x14 = true then (some 0) else (sequentref02_count.l0 k (wrap64 ((wrap64 (x1 - 1)) - (wrap64 ((x337001.size : Int) / 100)))) x2 0 x337000 x337001 x337002 x337003 x337004 x337005 x337006)
def sequentref02_count.l0 : Nat → Int → Int → Int → Int → ByteArray → Bool → ByteArray → List (S24) → Int → List (S27) → Option (Int)
 | 0, _, _, _, _, _, _, _, _, _, _ => none
 | k + 1, x1, x2, x7, x337000, x337001, x337002, x337003, x337004, x337005, x337006 => if x7 < (x337006.length : Int) then (if x1 > 0 then (if 0 ≤ x7 then ((sequentref02_count.f k ((rd_T27 x337006 x7).f0) ((rd_T27 x337006 x7).f1) ((rd_T27 x337006 x7).f2.f0) ((rd_T27 x337006 x7).f2.f1) ((rd_T27 x337006 x7).f2.f2) ((rd_T27 x337006 x7).f3) ((rd_T27 x337006 x7).f4) x1 (wrap64 (x2 - 1))).bind fun t339 => (sequentref02_count.l0 k t339 x2 (wrap64 (x7 + 1)) x337000 x337001 x337002 x337003 x337004 x337005 x337006)) else (none)) else (some x1)) else (some x1)
def sequentref02_count.f : Nat → Int → ByteArray → Bool → ByteArray → List (S24) → Int → List (S27) → Int → Int → Option (Int)
 | 0, _, _, _, _, _, _, _, _, _ => none
 | k + 1, a0_0, a0_1, a0_2, a0_3, l0_4, a0_5, l0_6, a1, a2 => if a2 = 0 then (sequentref02_count.j0 k a1 a2 true a0_0 a0_1 a0_2 a0_3 l0_4 a0_5 l0_6) else ((sequentref01_Great.f k a0_2 a0_3 l0_4).bind fun t337 => (sequentref02_count.j0 k a1 a2 t337 a0_0 a0_1 a0_2 a0_3 l0_4 a0_5 l0_6))
end
set_option maxHeartbeats 8000000 in
set_option maxRecDepth 100000 in
theorem sequentref02_count.calls (k : Nat) : ∀ (a0_0 : Int) (a0_1 : ByteArray) (a0_2 : Bool) (a0_3 : ByteArray) (A0_4 : Option Addr) (c0_4 : Nat) (l0_4 : List (S24)) (a0_5 : Int) (A0_6 : Option Addr) (c0_6 : Nat) (l0_6 : List (S27)) (a1 : Int) (a2 : Int) (r : Int) (w : World) (hr0_4 : Kd.C k24 w A0_4 l0_4.length l0_4) (hc0_4 : l0_4.length ≤ c0_4) (hr0_6 : Kd.C k27 w A0_6 l0_6.length l0_6) (hc0_6 : l0_6.length ≤ c0_6) (h : sequentref02_count.f k a0_0 a0_1 a0_2 a0_3 l0_4 a0_5 l0_6 a1 a2 = some r),
 Calls Try.prog 89 #[.agg #[.int .u8 a0_0, .string a0_1, .bool a0_2, .string a0_3, .slice A0_4 l0_4.length c0_4, .int .i64 a0_5, .slice A0_6 l0_6.length c0_6], .int .i64 a1, .int .i64 a2] w fun e w' => e = .returned (.int .i64 r) ∧ Below w.heap.size w w' := by
 induction k using Nat.strongRecOn with
 | _ k ih =>
 intro a0_0 a0_1 a0_2 a0_3 A0_4 c0_4 l0_4 a0_5 A0_6 c0_6 l0_6 a1 a2 r w hr0_4 hc0_4 hr0_6 hc0_6 h
 cases k with
 | zero => exact absurd h (by simp [sequentref02_count.f])
 | succ k =>
 simp only [sequentref02_count.f] at h
 have hu27 := Try.underlying27
 have hu24 := Try.underlying24
 have HR0_4 := Aside0.mk hr0_4
 have HC0_4 := Aside0.mk hc0_4
 clear hr0_4 hc0_4
 have HR0_6 := Aside0.mk hr0_6
 have HC0_6 := Aside0.mk hc0_6
 clear hr0_6 hc0_6
 have HB := Aside0.mk (Below.refl w.heap.size w)
 have H : (if a2 = 0 then (sequentref02_count.j0 k a1 a2 true a0_0 a0_1 a0_2 a0_3 l0_4 a0_5 l0_6) else ((sequentref01_Great.f k a0_2 a0_3 l0_4).bind fun t337 => (sequentref02_count.j0 k a1 a2 t337 a0_0 a0_1 a0_2 a0_3 l0_4 a0_5 l0_6))) = some r := h
 clear h
 have HC4 := Aside0.mk H
 clear H
 go_enter Try.func89, Try.ntmps89
 go_upto_region 1 with (first | ((with_reducible refine gate_dst (N := 3) rfl ?_); refine box_event ?hg (N := 3) ?hd (cs := #[.int .u8 a0_0, .string a0_1, .bool a0_2, .string a0_3, .slice A0_4 l0_4.length c0_4, .int .i64 a0_5, .slice A0_6 l0_6.length c0_6]) (t := 27) ?hr ?_; (case hd => rfl); (case hg => rfl); (case hr => first | (go_simp; done) | (go_simp; rfl)); intro gb336 hg w5 hbox hb; have n0_ := Aside0.mk (below_step bel_ hb); have n1_ := Aside0.mk (hbox); have n2_ := Aside0.mk ((by rw [hg]; exact (below_size bel_) : w.heap.size ≤ gb336)); have n3_ := Aside0.mk ((by rw [hg]; exact (below_size bel_) : w.heap.size ≤ gb336)); clear HB; have HB := n0_; have BK336 := n1_; have GW336 := n2_; have GE336 := n3_; clear n0_ n1_ n2_ n3_; clear hb hbox hg))
 (try simp only [Act.put, List.setIfInBounds_toArray, List.set_cons_zero, List.set_cons_succ])
 go_cut [14] (fun v14 wc => ∃ (kq : Nat) (x14_3 : Bool), v14 = .bool x14_3 ∧ Aside0 (sequentref02_count.j0 kq a1 a2 x14_3 a0_0 a0_1 a0_2 a0_3 l0_4 a0_5 l0_6 = some r) ∧ Aside0 (kq ≤ k) ∧ Aside0 (wc.heap[gb336]? = some (.cells #[.int .u8 a0_0, .string a0_1, .bool a0_2, .string a0_3, (.slice A0_4 l0_4.length c0_4), .int .i64 a0_5, (.slice A0_6 l0_6.length c0_6)] 27 (0, 0))) ∧ Aside0 (Below w.heap.size w wc))
 case first =>
  have H := HC4.out
  clear HC4
  by_cases c6 : a2 = 0
  ·rw [if_pos c6] at H
   have c6b0 : (a2 == 0) = true := beq_iff_eq.mpr c6
   have c6b1 : (a2 != 0) = false := bne_eq_false_iff_eq.mpr c6
   clear c6
   (first | rw [c6b0] | (simp only [i64_w, i32_w]; rw [c6b0]) | skip)
   have H' := Aside0.mk H
   clear H
   go_wp2
   go_meet
   case rel => exact ⟨_, (true), (by first | rfl | (simp; done) | (simp [*]; done)), H', ⟨by first | omega | exact Nat.le_refl _⟩, ⟨bk_ BK336⟩, ⟨bel_⟩⟩
  ·rw [if_neg c6] at H
   have c6b0 : (a2 == 0) = false := beq_eq_false_iff_ne.mpr c6
   have c6b1 : (a2 != 0) = true := bne_iff_ne.mpr c6
   (first | rw [c6b0] | (simp only [i64_w, i32_w]; rw [c6b0]) | skip)
   replace H := Option.bind_eq_some_iff.mp H
   obtain ⟨t337, A70, H⟩ := H
   replace H : (sequentref02_count.j0 k a1 a2 t337 a0_0 a0_1 a0_2 a0_3 l0_4 a0_5 l0_6) = some r := H
   have A7 := Aside0.mk A70
   clear A70
   have H' := Aside0.mk H
   clear H
   have hcz8_0 : w5.cell? ⟨gb336, 0, none⟩ = some (.int .u8 a0_0) := (blk_cell BK336.out 0).trans rfl
   have hcz8_1 : w5.cell? ⟨gb336, 1, none⟩ = some (.string a0_1) := (blk_cell BK336.out 1).trans rfl
   have hcz8_2 : w5.cell? ⟨gb336, 2, none⟩ = some (.bool a0_2) := (blk_cell BK336.out 2).trans rfl
   have hcz8_3 : w5.cell? ⟨gb336, 3, none⟩ = some (.string a0_3) := (blk_cell BK336.out 3).trans rfl
   have hcz8_4 : w5.cell? ⟨gb336, 4, none⟩ = some (.slice A0_4 l0_4.length c0_4) := (blk_cell BK336.out 4).trans rfl
   have hcz8_5 : w5.cell? ⟨gb336, 5, none⟩ = some (.int .i64 a0_5) := (blk_cell BK336.out 5).trans rfl
   have hcz8_6 : w5.cell? ⟨gb336, 6, none⟩ = some (.slice A0_6 l0_6.length c0_6) := (blk_cell BK336.out 6).trans rfl
   have hfz8_0 := blk_frozen BK336.out 0
   have hfz8_1 := blk_frozen BK336.out 1
   have hfz8_2 := blk_frozen BK336.out 2
   have hfz8_3 := blk_frozen BK336.out 3
   have hfz8_4 := blk_frozen BK336.out 4
   have hfz8_5 := blk_frozen BK336.out 5
   have hfz8_6 := blk_frozen BK336.out 6
   go_wp2_with (first | (go_at_call 84; (with_reducible refine (sequentref01_Great.calls k a0_2 a0_3 _ _ l0_4 t337 _ ?side1 ?side2 A7.out).mono ?_); (case side1 => repeat (first | exact (Kd.C_below HR0_4.out HB.out) | (with_reducible refine Kd.C_alloc ?_ _) | (with_reducible refine Kd.C_drewN ?_ _) | (with_reducible refine Kd.C_drew ?_))); (case side2 => exact HC0_4.out); rintro e w9 ⟨rfl, hb⟩; have n0_ := Aside0.mk (blk_below (g := gb336) (o := .cells #[.int .u8 a0_0, .string a0_1, .bool a0_2, .string a0_3, .slice A0_4 l0_4.length c0_4, .int .i64 a0_5, .slice A0_6 l0_6.length c0_6] 27 (0, 0)) (bk_ BK336) hb); have n1_ := Aside0.mk (below_step bel_ hb); clear BK336; clear HB; have BK336 := n0_; have HB := n1_; clear n0_ n1_; (try clear hb); (try clear hb2); (try clear hk); (try clear hi)))
   go_meet
   case rel => exact ⟨_, (t337), (by first | rfl | (simp; done) | (simp [*]; done)), H', ⟨by first | omega | exact Nat.le_refl _⟩, ⟨bk_ BK336⟩, ⟨bel_⟩⟩
 case rest =>
  clear HC4
  try clear p2
  try clear c6
  try clear c6b0
  try clear c6b1
  try clear c8
  try clear hcz8_0
  try clear hcz8_1
  try clear hcz8_2
  try clear hcz8_3
  try clear hcz8_4
  try clear hcz8_5
  try clear hcz8_6
  try clear hfz8_0
  try clear hfz8_1
  try clear hfz8_2
  try clear hfz8_3
  try clear hfz8_4
  try clear hfz8_5
  try clear hfz8_6
  obtain ⟨kq, x14_3, rfl, HA, HJ3, BK336, HB⟩ := hcut
  cases kq with
  | zero => exact absurd HA.out (by simp [sequentref02_count.j0])
  | succ kj3 =>
   have H := HA.out
   clear HA
   simp only [sequentref02_count.j0] at H
   by_cases c10 : x14_3 = true
   ·subst c10
    have H1 : (some 0) = some r := by rw [if_pos rfl] at H; exact H
    clear H
    have H := H1
    clear H1
    obtain rfl := Option.some.inj H
    go_wp2
    go_ret
    exact ⟨by first | rfl | (simp [errW_none, errW_some] <;> rfl) | (simp [*, errW_none, errW_some] <;> rfl), bel_⟩
   ·replace c10 := Bool.eq_false_iff.mpr c10
    subst c10
    have H1 : (sequentref02_count.l0 kj3 (wrap64 ((wrap64 (a1 - 1)) - (wrap64 ((a0_1.size : Int) / 100)))) a2 0 a0_0 a0_1 a0_2 a0_3 l0_4 a0_5 l0_6) = some r := by rw [if_neg (show ¬ (false = true) by decide)] at H; exact H
    clear H
    have H := H1
    clear H1
    have H' := Aside0.mk H
    clear H
    have hcz11_0 : wc.cell? ⟨gb336, 0, none⟩ = some (.int .u8 a0_0) := (blk_cell BK336.out 0).trans rfl
    have hcz11_1 : wc.cell? ⟨gb336, 1, none⟩ = some (.string a0_1) := (blk_cell BK336.out 1).trans rfl
    have hcz11_2 : wc.cell? ⟨gb336, 2, none⟩ = some (.bool a0_2) := (blk_cell BK336.out 2).trans rfl
    have hcz11_3 : wc.cell? ⟨gb336, 3, none⟩ = some (.string a0_3) := (blk_cell BK336.out 3).trans rfl
    have hcz11_4 : wc.cell? ⟨gb336, 4, none⟩ = some (.slice A0_4 l0_4.length c0_4) := (blk_cell BK336.out 4).trans rfl
    have hcz11_5 : wc.cell? ⟨gb336, 5, none⟩ = some (.int .i64 a0_5) := (blk_cell BK336.out 5).trans rfl
    have hcz11_6 : wc.cell? ⟨gb336, 6, none⟩ = some (.slice A0_6 l0_6.length c0_6) := (blk_cell BK336.out 6).trans rfl
    have hfz11_0 := blk_frozen BK336.out 0
    have hfz11_1 := blk_frozen BK336.out 1
    have hfz11_2 := blk_frozen BK336.out 2
    have hfz11_3 := blk_frozen BK336.out 3
    have hfz11_4 := blk_frozen BK336.out 4
    have hfz11_5 := blk_frozen BK336.out 5
    have hfz11_6 := blk_frozen BK336.out 6
    go_wp2
    go_loopg [1, 7] kj3 (fun kq v1 v7 w' => ∃ (x1_2 : Int) (x7_2 : Int), v1 = .int .i64 x1_2 ∧ v7 = .int .i64 x7_2 ∧ Aside0 (sequentref02_count.l0 kq x1_2 a2 x7_2 a0_0 a0_1 a0_2 a0_3 l0_4 a0_5 l0_6 = some r) ∧ Aside0 (kq ≤ kj3) ∧ Aside0 (w'.heap[gb336]? = some (.cells #[.int .u8 a0_0, .string a0_1, .bool a0_2, .string a0_3, (.slice A0_4 l0_4.length c0_4), .int .i64 a0_5, (.slice A0_6 l0_6.length c0_6)] 27 (0, 0))) ∧ Aside0 (Below w.heap.size w w'))
    case atStart => exact ⟨(wrap64 ((wrap64 (a1 - 1)) - (wrap64 ((a0_1.size : Int) / 100)))), (0), (by first | rfl | (simp; done) | (simp [*]; done)), (by first | rfl | (simp; done) | (simp [*]; done)), H', ⟨Nat.le_refl _⟩, ⟨bk_ BK336⟩, ⟨bel_⟩⟩
    case round =>
     clear H'
     try clear c1
     try clear p2
     try clear c6
     try clear c6b0
     try clear c6b1
     try clear p6
     try clear c8
     try clear c10
     try clear hcz11_0
     try clear hcz11_1
     try clear hcz11_2
     try clear hcz11_3
     try clear hcz11_4
     try clear hcz11_5
     try clear hcz11_6
     try clear hcz8_0
     try clear hcz8_1
     try clear hcz8_2
     try clear hcz8_3
     try clear hcz8_4
     try clear hcz8_5
     try clear hcz8_6
     try clear hfz11_0
     try clear hfz11_1
     try clear hfz11_2
     try clear hfz11_3
     try clear hfz11_4
     try clear hfz11_5
     try clear hfz11_6
     try clear hfz8_0
     try clear hfz8_1
     try clear hfz8_2
     try clear hfz8_3
     try clear hfz8_4
     try clear hfz8_5
     try clear hfz8_6
     try clear p2
     obtain ⟨x1_2, x7_2, rfl, rfl, HA, HK2, BK336, HB⟩ := hrel
     cases gk with
     | zero => exact absurd HA.out (by simp [sequentref02_count.l0])
     | succ k2 =>
      have H := HA.out
      clear HA
      simp only [sequentref02_count.l0] at H
      by_cases c12 : x7_2 < (l0_6.length : Int)
      ·rw [if_pos c12] at H
       have c12b0 : decide (x7_2 < (l0_6.length : Int)) = true := decide_eq_true c12
       clear c12
       by_cases c13 : x1_2 > 0
       ·rw [if_pos c13] at H
        have c13b0 : decide (0 < x1_2) = true := decide_eq_true c13
        clear c13
        by_cases c14 : 0 ≤ x7_2
        ·rw [if_pos c14] at H
         have c14b0 : decide (0 ≤ x7_2) = true := decide_eq_true c14
         clear c14
         replace H := Option.bind_eq_some_iff.mp H
         obtain ⟨t339, A150, H⟩ := H
         replace H : (sequentref02_count.l0 k2 t339 a2 (wrap64 (x7_2 + 1)) a0_0 a0_1 a0_2 a0_3 l0_4 a0_5 l0_6) = some r := H
         have A15 := Aside0.mk A150
         clear A150
         have H' := Aside0.mk H
         clear H
         have hcz16_0 : wr.cell? ⟨gb336, 0, none⟩ = some (.int .u8 a0_0) := (blk_cell BK336.out 0).trans rfl
         have hcz16_1 : wr.cell? ⟨gb336, 1, none⟩ = some (.string a0_1) := (blk_cell BK336.out 1).trans rfl
         have hcz16_2 : wr.cell? ⟨gb336, 2, none⟩ = some (.bool a0_2) := (blk_cell BK336.out 2).trans rfl
         have hcz16_3 : wr.cell? ⟨gb336, 3, none⟩ = some (.string a0_3) := (blk_cell BK336.out 3).trans rfl
         have hcz16_4 : wr.cell? ⟨gb336, 4, none⟩ = some (.slice A0_4 l0_4.length c0_4) := (blk_cell BK336.out 4).trans rfl
         have hcz16_5 : wr.cell? ⟨gb336, 5, none⟩ = some (.int .i64 a0_5) := (blk_cell BK336.out 5).trans rfl
         have hcz16_6 : wr.cell? ⟨gb336, 6, none⟩ = some (.slice A0_6 l0_6.length c0_6) := (blk_cell BK336.out 6).trans rfl
         have hfz16_0 := blk_frozen BK336.out 0
         have hfz16_1 := blk_frozen BK336.out 1
         have hfz16_2 := blk_frozen BK336.out 2
         have hfz16_3 := blk_frozen BK336.out 3
         have hfz16_4 := blk_frozen BK336.out 4
         have hfz16_5 := blk_frozen BK336.out 5
         have hfz16_6 := blk_frozen BK336.out 6
         have p338 : 0 ≤ (x7_2 : Int) := dq_
         have q338 : x7_2 < (l0_6.length : Int) := dq_
         obtain ⟨ad338, A338_4, c338_4, A338_6, c338_6, e338, hx338_0, hx338_1, hx338_2, hx338_3, hx338_4, hx338_5, hx338_6, hl338_4, hi338_4, hl338_6, hi338_6⟩ := at_T27 HR0_6.out x7_2 p338 q338
         cases e338
         replace hx338_0 := pw_cell_below HB.out hx338_0
         replace hx338_1 := pw_cell_below HB.out hx338_1
         replace hx338_2 := pw_cell_below HB.out hx338_2
         replace hx338_3 := pw_cell_below HB.out hx338_3
         replace hx338_4 := pw_cell_below HB.out hx338_4
         replace hx338_5 := pw_cell_below HB.out hx338_5
         replace hx338_6 := pw_cell_below HB.out hx338_6
         have HR338_4 := Aside0.mk hi338_4
         have HC338_4 := Aside0.mk hl338_4
         clear hi338_4 hl338_4
         have HR338_6 := Aside0.mk hi338_6
         have HC338_6 := Aside0.mk hl338_6
         clear hi338_6 hl338_6
         replace p338 := eq_true p338
         replace q338 := eq_true q338
         go_wp2_with (first | ((with_reducible refine gate_callee (f := 89) rfl ?_); refine goesL_ (some 41) rfl rfl Try.func89 (by kernel_rfl) rfl #[.agg #[.int .u8 ((rd_T27 l0_6 x7_2).f0), .string ((rd_T27 l0_6 x7_2).f1), .bool ((rd_T27 l0_6 x7_2).f2.f0), .string ((rd_T27 l0_6 x7_2).f2.f1), .slice A338_4 ((rd_T27 l0_6 x7_2).f2.f2).length c338_4, .int .i64 ((rd_T27 l0_6 x7_2).f3), .slice A338_6 ((rd_T27 l0_6 x7_2).f4).length c338_6], .int .i64 x1_2, .int .i64 (wrap64 (a2 - 1))] rfl (by (try simp only [List.map_toArray, List.map_cons, List.map_nil]); first | done | rfl | (simp only [List.length_drop, List.length_take]; rfl)) ?_; (with_reducible refine (ih k2 (by have := HJ3.out; have := HK2.out; omega) ((rd_T27 l0_6 x7_2).f0) ((rd_T27 l0_6 x7_2).f1) ((rd_T27 l0_6 x7_2).f2.f0) ((rd_T27 l0_6 x7_2).f2.f1) _ _ ((rd_T27 l0_6 x7_2).f2.f2) ((rd_T27 l0_6 x7_2).f3) _ _ ((rd_T27 l0_6 x7_2).f4) x1_2 (wrap64 (a2 - 1)) t339 _ ?side1 ?side2 ?side3 ?side4 A15.out).mono ?_); (case side1 => repeat (first | exact (Kd.C_below HR338_4.out HB.out) | (with_reducible refine Kd.C_alloc ?_ _) | (with_reducible refine Kd.C_drewN ?_ _) | (with_reducible refine Kd.C_drew ?_))); (case side2 => exact HC338_4.out); (case side3 => repeat (first | exact (Kd.C_below HR338_6.out HB.out) | (with_reducible refine Kd.C_alloc ?_ _) | (with_reducible refine Kd.C_drewN ?_ _) | (with_reducible refine Kd.C_drew ?_))); (case side4 => exact HC338_6.out); rintro e w17 ⟨rfl, hb⟩; refine ⟨_, rfl, ?_⟩; have n0_ := Aside0.mk (blk_below (g := gb336) (o := .cells #[.int .u8 a0_0, .string a0_1, .bool a0_2, .string a0_3, .slice A0_4 l0_4.length c0_4, .int .i64 a0_5, .slice (some ad338) l0_6.length c0_6] 27 (0, 0)) (bk_ BK336) hb); have n1_ := Aside0.mk (below_step bel_ hb); clear BK336; clear HB; have BK336 := n0_; have HB := n1_; clear n0_ n1_; (try clear hb); (try clear hb2); (try clear hk); (try clear hi)))
         go_roundg k2
         case measure => have := HJ3.out; have := HK2.out; omega
         case rel => exact ⟨(t339), (wrap64 (x7_2 + 1)), (by first | rfl | (simp; done) | (simp [*]; done)), (by first | rfl | (simp; done) | (simp [*]; done)), H', ⟨by have := HJ3.out; have := HK2.out; omega⟩, ⟨bk_ BK336⟩, ⟨bel_⟩⟩
        ·rw [if_neg c14] at H
         exact absurd H (by simp)
       ·rw [if_neg c13] at H
        have c13b0 : decide (0 < x1_2) = false := decide_eq_false c13
        clear c13
        obtain rfl := Option.some.inj H
        have hcz18_0 : wr.cell? ⟨gb336, 0, none⟩ = some (.int .u8 a0_0) := (blk_cell BK336.out 0).trans rfl
        have hcz18_1 : wr.cell? ⟨gb336, 1, none⟩ = some (.string a0_1) := (blk_cell BK336.out 1).trans rfl
        have hcz18_2 : wr.cell? ⟨gb336, 2, none⟩ = some (.bool a0_2) := (blk_cell BK336.out 2).trans rfl
        have hcz18_3 : wr.cell? ⟨gb336, 3, none⟩ = some (.string a0_3) := (blk_cell BK336.out 3).trans rfl
        have hcz18_4 : wr.cell? ⟨gb336, 4, none⟩ = some (.slice A0_4 l0_4.length c0_4) := (blk_cell BK336.out 4).trans rfl
        have hcz18_5 : wr.cell? ⟨gb336, 5, none⟩ = some (.int .i64 a0_5) := (blk_cell BK336.out 5).trans rfl
        have hcz18_6 : wr.cell? ⟨gb336, 6, none⟩ = some (.slice A0_6 l0_6.length c0_6) := (blk_cell BK336.out 6).trans rfl
        have hfz18_0 := blk_frozen BK336.out 0
        have hfz18_1 := blk_frozen BK336.out 1
        have hfz18_2 := blk_frozen BK336.out 2
        have hfz18_3 := blk_frozen BK336.out 3
        have hfz18_4 := blk_frozen BK336.out 4
        have hfz18_5 := blk_frozen BK336.out 5
        have hfz18_6 := blk_frozen BK336.out 6
        go_wp2
        go_ret
        exact ⟨by first | rfl | (simp [errW_none, errW_some] <;> rfl) | (simp [*, errW_none, errW_some] <;> rfl), bel_⟩
      ·rw [if_neg c12] at H
       have c12b0 : decide (x7_2 < (l0_6.length : Int)) = false := decide_eq_false c12
       clear c12
       obtain rfl := Option.some.inj H
       have hcz19_0 : wr.cell? ⟨gb336, 0, none⟩ = some (.int .u8 a0_0) := (blk_cell BK336.out 0).trans rfl
       have hcz19_1 : wr.cell? ⟨gb336, 1, none⟩ = some (.string a0_1) := (blk_cell BK336.out 1).trans rfl
       have hcz19_2 : wr.cell? ⟨gb336, 2, none⟩ = some (.bool a0_2) := (blk_cell BK336.out 2).trans rfl
       have hcz19_3 : wr.cell? ⟨gb336, 3, none⟩ = some (.string a0_3) := (blk_cell BK336.out 3).trans rfl
       have hcz19_4 : wr.cell? ⟨gb336, 4, none⟩ = some (.slice A0_4 l0_4.length c0_4) := (blk_cell BK336.out 4).trans rfl
       have hcz19_5 : wr.cell? ⟨gb336, 5, none⟩ = some (.int .i64 a0_5) := (blk_cell BK336.out 5).trans rfl
       have hcz19_6 : wr.cell? ⟨gb336, 6, none⟩ = some (.slice A0_6 l0_6.length c0_6) := (blk_cell BK336.out 6).trans rfl
       have hfz19_0 := blk_frozen BK336.out 0
       have hfz19_1 := blk_frozen BK336.out 1
       have hfz19_2 := blk_frozen BK336.out 2
       have hfz19_3 := blk_frozen BK336.out 3
       have hfz19_4 := blk_frozen BK336.out 4
       have hfz19_5 := blk_frozen BK336.out 5
       have hfz19_6 := blk_frozen BK336.out 6
       go_wp2
       go_ret
       exact ⟨by first | rfl | (simp [errW_none, errW_some] <;> rfl) | (simp [*, errW_none, errW_some] <;> rfl), bel_⟩

end Go.Proofs.Ytecplbgdalchdaa.Q
-- written by a program of this session (wip/tools/myprint.py) out of the translation
namespace Go.Proofs.Ytecplbgdalchdaa.Q
open Go.RowKit Go.Proofs.YtecplbgdalchdaaW.PrintWords Go.Proofs.YtecplbgdalchdaaW.PrintLast Go.Proofs.YtecplbgdalchdaaW.PrintMore
attribute [local go_sem] max2_int min2_int max_two min_two max_three min_three max_four min_four   -- for this text's walks alone
set_option linter.unusedVariables false
set_option linter.unusedSimpArgs false

/-! ### sequentref02_Size: function 36 -/
mutual
def sequentref02_Size.l0 : Nat → Int → Int → Int → ByteArray → Bool → ByteArray → List (S24) → Int → List (S27) → Option (Int)
 | 0, _, _, _, _, _, _, _, _, _ => none
 | k + 1, x3, x4, x341000, x341001, x341002, x341003, x341004, x341005, x341006 => if x4 < (x341006.length : Int) then (if 0 ≤ x4 then ((sequentref02_Size.f k ((rd_T27 x341006 x4).f0) ((rd_T27 x341006 x4).f1) ((rd_T27 x341006 x4).f2.f0) ((rd_T27 x341006 x4).f2.f1) ((rd_T27 x341006 x4).f2.f2) ((rd_T27 x341006 x4).f3) ((rd_T27 x341006 x4).f4)).bind fun t342 => (sequentref02_Size.l0 k (wrap64 (x3 + t342)) (wrap64 (x4 + 1)) x341000 x341001 x341002 x341003 x341004 x341005 x341006)) else (none)) else (some x3)
def sequentref02_Size.f : Nat → Int → ByteArray → Bool → ByteArray → List (S24) → Int → List (S27) → Option (Int)
 | 0, _, _, _, _, _, _, _ => none
 | k + 1, a0_0, a0_1, a0_2, a0_3, l0_4, a0_5, l0_6 => sequentref02_Size.l0 k 1 0 a0_0 a0_1 a0_2 a0_3 l0_4 a0_5 l0_6
end
set_option maxHeartbeats 8000000 in
set_option maxRecDepth 100000 in
theorem sequentref02_Size.calls (k : Nat) : ∀ (a0_0 : Int) (a0_1 : ByteArray) (a0_2 : Bool) (a0_3 : ByteArray) (A0_4 : Option Addr) (c0_4 : Nat) (l0_4 : List (S24)) (a0_5 : Int) (A0_6 : Option Addr) (c0_6 : Nat) (l0_6 : List (S27)) (r : Int) (w : World) (hr0_4 : Kd.C k24 w A0_4 l0_4.length l0_4) (hc0_4 : l0_4.length ≤ c0_4) (hr0_6 : Kd.C k27 w A0_6 l0_6.length l0_6) (hc0_6 : l0_6.length ≤ c0_6) (h : sequentref02_Size.f k a0_0 a0_1 a0_2 a0_3 l0_4 a0_5 l0_6 = some r),
 Calls Try.prog 36 #[.agg #[.int .u8 a0_0, .string a0_1, .bool a0_2, .string a0_3, .slice A0_4 l0_4.length c0_4, .int .i64 a0_5, .slice A0_6 l0_6.length c0_6]] w fun e w' => e = .returned (.int .i64 r) ∧ Below w.heap.size w w' := by
 induction k using Nat.strongRecOn with
 | _ k ih =>
 intro a0_0 a0_1 a0_2 a0_3 A0_4 c0_4 l0_4 a0_5 A0_6 c0_6 l0_6 r w hr0_4 hc0_4 hr0_6 hc0_6 h
 cases k with
 | zero => exact absurd h (by simp [sequentref02_Size.f])
 | succ k =>
 simp only [sequentref02_Size.f] at h
 have hu27 := Try.underlying27
 have HR0_4 := Aside0.mk hr0_4
 have HC0_4 := Aside0.mk hc0_4
 clear hr0_4 hc0_4
 have HR0_6 := Aside0.mk hr0_6
 have HC0_6 := Aside0.mk hc0_6
 clear hr0_6 hc0_6
 have HB := Aside0.mk (Below.refl w.heap.size w)
 have H : (sequentref02_Size.l0 k 1 0 a0_0 a0_1 a0_2 a0_3 l0_4 a0_5 l0_6) = some r := h
 clear h
 have H' := Aside0.mk H
 clear H
 go_enter Try.func36, Try.ntmps36
 go_wp2_with (first | ((with_reducible refine gate_dst (N := 1) rfl ?_); refine box_event ?hg (N := 1) ?hd (cs := #[.int .u8 a0_0, .string a0_1, .bool a0_2, .string a0_3, .slice A0_4 l0_4.length c0_4, .int .i64 a0_5, .slice A0_6 l0_6.length c0_6]) (t := 27) ?hr ?_; (case hd => rfl); (case hg => rfl); (case hr => first | (go_simp; done) | (go_simp; rfl)); intro gb340 hg w2 hbox hb; have n0_ := Aside0.mk (below_step bel_ hb); have n1_ := Aside0.mk (hbox); have n2_ := Aside0.mk ((by rw [hg]; exact (below_size bel_) : w.heap.size ≤ gb340)); have n3_ := Aside0.mk ((by rw [hg]; exact (below_size bel_) : w.heap.size ≤ gb340)); clear HB; have HB := n0_; have BK340 := n1_; have GW340 := n2_; have GE340 := n3_; clear n0_ n1_ n2_ n3_; clear hb hbox hg))
 go_loopg [3, 4] k (fun kq v3 v4 w' => ∃ (x3_1 : Int) (x4_1 : Int), v3 = .int .i64 x3_1 ∧ v4 = .int .i64 x4_1 ∧ Aside0 (sequentref02_Size.l0 kq x3_1 x4_1 a0_0 a0_1 a0_2 a0_3 l0_4 a0_5 l0_6 = some r) ∧ Aside0 (kq ≤ k) ∧ Aside0 (w'.heap[gb340]? = some (.cells #[.int .u8 a0_0, .string a0_1, .bool a0_2, .string a0_3, (.slice A0_4 l0_4.length c0_4), .int .i64 a0_5, (.slice A0_6 l0_6.length c0_6)] 27 (0, 0))) ∧ Aside0 (Below w.heap.size w w'))
 case atStart => exact ⟨(1), (0), (by first | rfl | (simp; done) | (simp [*]; done)), (by first | rfl | (simp; done) | (simp [*]; done)), H', ⟨Nat.le_refl _⟩, ⟨bk_ BK340⟩, ⟨bel_⟩⟩
 case round =>
  clear H'
  try clear p2
  obtain ⟨x3_1, x4_1, rfl, rfl, HA, HK1, BK340, HB⟩ := hrel
  cases gk with
  | zero => exact absurd HA.out (by simp [sequentref02_Size.l0])
  | succ k1 =>
   have H := HA.out
   clear HA
   simp only [sequentref02_Size.l0] at H
   by_cases c3 : x4_1 < (l0_6.length : Int)
   ·rw [if_pos c3] at H
    have c3b0 : decide (x4_1 < (l0_6.length : Int)) = true := decide_eq_true c3
    clear c3
    by_cases c4 : 0 ≤ x4_1
    ·rw [if_pos c4] at H
     have c4b0 : decide (0 ≤ x4_1) = true := decide_eq_true c4
     clear c4
     replace H := Option.bind_eq_some_iff.mp H
     obtain ⟨t342, A50, H⟩ := H
     replace H : (sequentref02_Size.l0 k1 (wrap64 (x3_1 + t342)) (wrap64 (x4_1 + 1)) a0_0 a0_1 a0_2 a0_3 l0_4 a0_5 l0_6) = some r := H
     have A5 := Aside0.mk A50
     clear A50
     have H' := Aside0.mk H
     clear H
     have hcz6_0 : wr.cell? ⟨gb340, 0, none⟩ = some (.int .u8 a0_0) := (blk_cell BK340.out 0).trans rfl
     have hcz6_1 : wr.cell? ⟨gb340, 1, none⟩ = some (.string a0_1) := (blk_cell BK340.out 1).trans rfl
     have hcz6_2 : wr.cell? ⟨gb340, 2, none⟩ = some (.bool a0_2) := (blk_cell BK340.out 2).trans rfl
     have hcz6_3 : wr.cell? ⟨gb340, 3, none⟩ = some (.string a0_3) := (blk_cell BK340.out 3).trans rfl
     have hcz6_4 : wr.cell? ⟨gb340, 4, none⟩ = some (.slice A0_4 l0_4.length c0_4) := (blk_cell BK340.out 4).trans rfl
     have hcz6_5 : wr.cell? ⟨gb340, 5, none⟩ = some (.int .i64 a0_5) := (blk_cell BK340.out 5).trans rfl
     have hcz6_6 : wr.cell? ⟨gb340, 6, none⟩ = some (.slice A0_6 l0_6.length c0_6) := (blk_cell BK340.out 6).trans rfl
     have hfz6_0 := blk_frozen BK340.out 0
     have hfz6_1 := blk_frozen BK340.out 1
     have hfz6_2 := blk_frozen BK340.out 2
     have hfz6_3 := blk_frozen BK340.out 3
     have hfz6_4 := blk_frozen BK340.out 4
     have hfz6_5 := blk_frozen BK340.out 5
     have hfz6_6 := blk_frozen BK340.out 6
     have p341 : 0 ≤ (x4_1 : Int) := dq_
     have q341 : x4_1 < (l0_6.length : Int) := dq_
     obtain ⟨ad341, A341_4, c341_4, A341_6, c341_6, e341, hx341_0, hx341_1, hx341_2, hx341_3, hx341_4, hx341_5, hx341_6, hl341_4, hi341_4, hl341_6, hi341_6⟩ := at_T27 HR0_6.out x4_1 p341 q341
     cases e341
     replace hx341_0 := pw_cell_below HB.out hx341_0
     replace hx341_1 := pw_cell_below HB.out hx341_1
     replace hx341_2 := pw_cell_below HB.out hx341_2
     replace hx341_3 := pw_cell_below HB.out hx341_3
     replace hx341_4 := pw_cell_below HB.out hx341_4
     replace hx341_5 := pw_cell_below HB.out hx341_5
     replace hx341_6 := pw_cell_below HB.out hx341_6
     have HR341_4 := Aside0.mk hi341_4
     have HC341_4 := Aside0.mk hl341_4
     clear hi341_4 hl341_4
     have HR341_6 := Aside0.mk hi341_6
     have HC341_6 := Aside0.mk hl341_6
     clear hi341_6 hl341_6
     replace p341 := eq_true p341
     replace q341 := eq_true q341
     go_wp2_with (first | ((with_reducible refine gate_callee (f := 36) rfl ?_); refine goesL_ (some 18) rfl rfl Try.func36 (by kernel_rfl) rfl #[.agg #[.int .u8 ((rd_T27 l0_6 x4_1).f0), .string ((rd_T27 l0_6 x4_1).f1), .bool ((rd_T27 l0_6 x4_1).f2.f0), .string ((rd_T27 l0_6 x4_1).f2.f1), .slice A341_4 ((rd_T27 l0_6 x4_1).f2.f2).length c341_4, .int .i64 ((rd_T27 l0_6 x4_1).f3), .slice A341_6 ((rd_T27 l0_6 x4_1).f4).length c341_6]] rfl (by (try simp only [List.map_toArray, List.map_cons, List.map_nil]); first | done | rfl | (simp only [List.length_drop, List.length_take]; rfl)) ?_; (with_reducible refine (ih k1 (by have := HK1.out; omega) ((rd_T27 l0_6 x4_1).f0) ((rd_T27 l0_6 x4_1).f1) ((rd_T27 l0_6 x4_1).f2.f0) ((rd_T27 l0_6 x4_1).f2.f1) _ _ ((rd_T27 l0_6 x4_1).f2.f2) ((rd_T27 l0_6 x4_1).f3) _ _ ((rd_T27 l0_6 x4_1).f4) t342 _ ?side1 ?side2 ?side3 ?side4 A5.out).mono ?_); (case side1 => repeat (first | exact (Kd.C_below HR341_4.out HB.out) | (with_reducible refine Kd.C_alloc ?_ _) | (with_reducible refine Kd.C_drewN ?_ _) | (with_reducible refine Kd.C_drew ?_))); (case side2 => exact HC341_4.out); (case side3 => repeat (first | exact (Kd.C_below HR341_6.out HB.out) | (with_reducible refine Kd.C_alloc ?_ _) | (with_reducible refine Kd.C_drewN ?_ _) | (with_reducible refine Kd.C_drew ?_))); (case side4 => exact HC341_6.out); rintro e w7 ⟨rfl, hb⟩; refine ⟨_, rfl, ?_⟩; have n0_ := Aside0.mk (blk_below (g := gb340) (o := .cells #[.int .u8 a0_0, .string a0_1, .bool a0_2, .string a0_3, .slice A0_4 l0_4.length c0_4, .int .i64 a0_5, .slice (some ad341) l0_6.length c0_6] 27 (0, 0)) (bk_ BK340) hb); have n1_ := Aside0.mk (below_step bel_ hb); clear BK340; clear HB; have BK340 := n0_; have HB := n1_; clear n0_ n1_; (try clear hb); (try clear hb2); (try clear hk); (try clear hi)))
     go_roundg k1
     case measure => have := HK1.out; omega
     case rel => exact ⟨(wrap64 (x3_1 + t342)), (wrap64 (x4_1 + 1)), (by first | rfl | (simp; done) | (simp [*]; done)), (by first | rfl | (simp; done) | (simp [*]; done)), H', ⟨by have := HK1.out; omega⟩, ⟨bk_ BK340⟩, ⟨bel_⟩⟩
    ·rw [if_neg c4] at H
     exact absurd H (by simp)
   ·rw [if_neg c3] at H
    have c3b0 : decide (x4_1 < (l0_6.length : Int)) = false := decide_eq_false c3
    clear c3
    obtain rfl := Option.some.inj H
    have hcz8_0 : wr.cell? ⟨gb340, 0, none⟩ = some (.int .u8 a0_0) := (blk_cell BK340.out 0).trans rfl
    have hcz8_1 : wr.cell? ⟨gb340, 1, none⟩ = some (.string a0_1) := (blk_cell BK340.out 1).trans rfl
    have hcz8_2 : wr.cell? ⟨gb340, 2, none⟩ = some (.bool a0_2) := (blk_cell BK340.out 2).trans rfl
    have hcz8_3 : wr.cell? ⟨gb340, 3, none⟩ = some (.string a0_3) := (blk_cell BK340.out 3).trans rfl
    have hcz8_4 : wr.cell? ⟨gb340, 4, none⟩ = some (.slice A0_4 l0_4.length c0_4) := (blk_cell BK340.out 4).trans rfl
    have hcz8_5 : wr.cell? ⟨gb340, 5, none⟩ = some (.int .i64 a0_5) := (blk_cell BK340.out 5).trans rfl
    have hcz8_6 : wr.cell? ⟨gb340, 6, none⟩ = some (.slice A0_6 l0_6.length c0_6) := (blk_cell BK340.out 6).trans rfl
    have hfz8_0 := blk_frozen BK340.out 0
    have hfz8_1 := blk_frozen BK340.out 1
    have hfz8_2 := blk_frozen BK340.out 2
    have hfz8_3 := blk_frozen BK340.out 3
    have hfz8_4 := blk_frozen BK340.out 4
    have hfz8_5 := blk_frozen BK340.out 5
    have hfz8_6 := blk_frozen BK340.out 6
    go_wp2
    go_ret
    exact ⟨by first | rfl | (simp [errW_none, errW_some] <;> rfl) | (simp [*, errW_none, errW_some] <;> rfl), bel_⟩

end Go.Proofs.Ytecplbgdalchdaa.Q
-- written by a program of this session (wip/tools/myprint.py) out of the translation
namespace Go.Proofs.Ytecplbgdalchdaa.Q
open Go.RowKit Go.Proofs.YtecplbgdalchdaaW.PrintWords Go.Proofs.YtecplbgdalchdaaW.PrintLast Go.Proofs.YtecplbgdalchdaaW.PrintMore
attribute [local go_sem] max2_int min2_int max_two min_two max_three min_three max_four min_four   -- for this text's walks alone
set_option linter.unusedVariables false
set_option linter.unusedSimpArgs false

/-! ### sequentref02_Depth: function 162 -/
mutual
def sequentref02_Depth.l0 : Nat → Int → Int → Int → ByteArray → Bool → ByteArray → List (S24) → Int → List (S27) → Option (Int)
 | 0, _, _, _, _, _, _, _, _, _ => none
 | k + 1, x3, x4, x344000, x344001, x344002, x344003, x344004, x344005, x344006 => if x4 < (x344006.length : Int) then (if 0 ≤ x4 then ((sequentref02_Depth.f k ((rd_T27 x344006 x4).f0) ((rd_T27 x344006 x4).f1) ((rd_T27 x344006 x4).f2.f0) ((rd_T27 x344006 x4).f2.f1) ((rd_T27 x344006 x4).f2.f2) ((rd_T27 x344006 x4).f3) ((rd_T27 x344006 x4).f4)).bind fun t345 => (sequentref02_Depth.l0 k (mx x3 t345) (wrap64 (x4 + 1)) x344000 x344001 x344002 x344003 x344004 x344005 x344006)) else (none)) else (some (wrap64 (1 + x3)))
def sequentref02_Depth.f : Nat → Int → ByteArray → Bool → ByteArray → List (S24) → Int → List (S27) → Option (Int)
 | 0, _, _, _, _, _, _, _ => none
 | k + 1, a0_0, a0_1, a0_2, a0_3, l0_4, a0_5, l0_6 => sequentref02_Depth.l0 k 0 0 a0_0 a0_1 a0_2 a0_3 l0_4 a0_5 l0_6
end
set_option maxHeartbeats 8000000 in
set_option maxRecDepth 100000 in
theorem sequentref02_Depth.calls (k : Nat) : ∀ (a0_0 : Int) (a0_1 : ByteArray) (a0_2 : Bool) (a0_3 : ByteArray) (A0_4 : Option Addr) (c0_4 : Nat) (l0_4 : List (S24)) (a0_5 : Int) (A0_6 : Option Addr) (c0_6 : Nat) (l0_6 : List (S27)) (r : Int) (w : World) (hr0_4 : Kd.C k24 w A0_4 l0_4.length l0_4) (hc0_4 : l0_4.length ≤ c0_4) (hr0_6 : Kd.C k27 w A0_6 l0_6.length l0_6) (hc0_6 : l0_6.length ≤ c0_6) (h : sequentref02_Depth.f k a0_0 a0_1 a0_2 a0_3 l0_4 a0_5 l0_6 = some r),
 Calls Try.prog 162 #[.agg #[.int .u8 a0_0, .string a0_1, .bool a0_2, .string a0_3, .slice A0_4 l0_4.length c0_4, .int .i64 a0_5, .slice A0_6 l0_6.length c0_6]] w fun e w' => e = .returned (.int .i64 r) ∧ Below w.heap.size w w' := by
 induction k using Nat.strongRecOn with
 | _ k ih =>
 intro a0_0 a0_1 a0_2 a0_3 A0_4 c0_4 l0_4 a0_5 A0_6 c0_6 l0_6 r w hr0_4 hc0_4 hr0_6 hc0_6 h
 cases k with
 | zero => exact absurd h (by simp [sequentref02_Depth.f])
 | succ k =>
 simp only [sequentref02_Depth.f] at h
 have hu27 := Try.underlying27
 have HR0_4 := Aside0.mk hr0_4
 have HC0_4 := Aside0.mk hc0_4
 clear hr0_4 hc0_4
 have HR0_6 := Aside0.mk hr0_6
 have HC0_6 := Aside0.mk hc0_6
 clear hr0_6 hc0_6
 have HB := Aside0.mk (Below.refl w.heap.size w)
 have H : (sequentref02_Depth.l0 k 0 0 a0_0 a0_1 a0_2 a0_3 l0_4 a0_5 l0_6) = some r := h
 clear h
 have H' := Aside0.mk H
 clear H
 go_enter Try.func162, Try.ntmps162
 go_wp2_with (first | ((with_reducible refine gate_dst (N := 1) rfl ?_); refine box_event ?hg (N := 1) ?hd (cs := #[.int .u8 a0_0, .string a0_1, .bool a0_2, .string a0_3, .slice A0_4 l0_4.length c0_4, .int .i64 a0_5, .slice A0_6 l0_6.length c0_6]) (t := 27) ?hr ?_; (case hd => rfl); (case hg => rfl); (case hr => first | (go_simp; done) | (go_simp; rfl)); intro gb343 hg w2 hbox hb; have n0_ := Aside0.mk (below_step bel_ hb); have n1_ := Aside0.mk (hbox); have n2_ := Aside0.mk ((by rw [hg]; exact (below_size bel_) : w.heap.size ≤ gb343)); have n3_ := Aside0.mk ((by rw [hg]; exact (below_size bel_) : w.heap.size ≤ gb343)); clear HB; have HB := n0_; have BK343 := n1_; have GW343 := n2_; have GE343 := n3_; clear n0_ n1_ n2_ n3_; clear hb hbox hg))
 go_loopg [3, 4] k (fun kq v3 v4 w' => ∃ (x3_1 : Int) (x4_1 : Int), v3 = .int .i64 x3_1 ∧ v4 = .int .i64 x4_1 ∧ Aside0 (sequentref02_Depth.l0 kq x3_1 x4_1 a0_0 a0_1 a0_2 a0_3 l0_4 a0_5 l0_6 = some r) ∧ Aside0 (kq ≤ k) ∧ Aside0 (w'.heap[gb343]? = some (.cells #[.int .u8 a0_0, .string a0_1, .bool a0_2, .string a0_3, (.slice A0_4 l0_4.length c0_4), .int .i64 a0_5, (.slice A0_6 l0_6.length c0_6)] 27 (0, 0))) ∧ Aside0 (Below w.heap.size w w'))
 case atStart => exact ⟨(0), (0), (by first | rfl | (simp; done) | (simp [*]; done)), (by first | rfl | (simp; done) | (simp [*]; done)), H', ⟨Nat.le_refl _⟩, ⟨bk_ BK343⟩, ⟨bel_⟩⟩
 case round =>
  clear H'
  try clear c1
  try clear p2
  obtain ⟨x3_1, x4_1, rfl, rfl, HA, HK1, BK343, HB⟩ := hrel
  cases gk with
  | zero => exact absurd HA.out (by simp [sequentref02_Depth.l0])
  | succ k1 =>
   have H := HA.out
   clear HA
   simp only [sequentref02_Depth.l0] at H
   by_cases c3 : x4_1 < (l0_6.length : Int)
   ·rw [if_pos c3] at H
    have c3b0 : decide (x4_1 < (l0_6.length : Int)) = true := decide_eq_true c3
    clear c3
    by_cases c4 : 0 ≤ x4_1
    ·rw [if_pos c4] at H
     have c4b0 : decide (0 ≤ x4_1) = true := decide_eq_true c4
     clear c4
     replace H := Option.bind_eq_some_iff.mp H
     obtain ⟨t345, A50, H⟩ := H
     replace H : (sequentref02_Depth.l0 k1 (mx x3_1 t345) (wrap64 (x4_1 + 1)) a0_0 a0_1 a0_2 a0_3 l0_4 a0_5 l0_6) = some r := H
     have A5 := Aside0.mk A50
     clear A50
     obtain ⟨ji6, hji6⟩ : ∃ j_ : Int, (mx x3_1 t345) = j_ := ⟨_, rfl⟩
     replace H : (sequentref02_Depth.l0 k1 ji6 (wrap64 (x4_1 + 1)) a0_0 a0_1 a0_2 a0_3 l0_4 a0_5 l0_6) = some r := by first | (rw [hji6] at H; exact H) | (simp only [hji6] at H ⊢; exact H)
     (try rw [hji6] at A5)
     have hji6_ : (if x3_1 < t345 then t345 else x3_1) = ji6 := hji6
     have H' := Aside0.mk H
     clear H
     have hcz7_0 : wr.cell? ⟨gb343, 0, none⟩ = some (.int .u8 a0_0) := (blk_cell BK343.out 0).trans rfl
     have hcz7_1 : wr.cell? ⟨gb343, 1, none⟩ = some (.string a0_1) := (blk_cell BK343.out 1).trans rfl
     have hcz7_2 : wr.cell? ⟨gb343, 2, none⟩ = some (.bool a0_2) := (blk_cell BK343.out 2).trans rfl
     have hcz7_3 : wr.cell? ⟨gb343, 3, none⟩ = some (.string a0_3) := (blk_cell BK343.out 3).trans rfl
     have hcz7_4 : wr.cell? ⟨gb343, 4, none⟩ = some (.slice A0_4 l0_4.length c0_4) := (blk_cell BK343.out 4).trans rfl
     have hcz7_5 : wr.cell? ⟨gb343, 5, none⟩ = some (.int .i64 a0_5) := (blk_cell BK343.out 5).trans rfl
     have hcz7_6 : wr.cell? ⟨gb343, 6, none⟩ = some (.slice A0_6 l0_6.length c0_6) := (blk_cell BK343.out 6).trans rfl
     have hfz7_0 := blk_frozen BK343.out 0
     have hfz7_1 := blk_frozen BK343.out 1
     have hfz7_2 := blk_frozen BK343.out 2
     have hfz7_3 := blk_frozen BK343.out 3
     have hfz7_4 := blk_frozen BK343.out 4
     have hfz7_5 := blk_frozen BK343.out 5
     have hfz7_6 := blk_frozen BK343.out 6
     have p344 : 0 ≤ (x4_1 : Int) := dq_
     have q344 : x4_1 < (l0_6.length : Int) := dq_
     obtain ⟨ad344, A344_4, c344_4, A344_6, c344_6, e344, hx344_0, hx344_1, hx344_2, hx344_3, hx344_4, hx344_5, hx344_6, hl344_4, hi344_4, hl344_6, hi344_6⟩ := at_T27 HR0_6.out x4_1 p344 q344
     cases e344
     replace hx344_0 := pw_cell_below HB.out hx344_0
     replace hx344_1 := pw_cell_below HB.out hx344_1
     replace hx344_2 := pw_cell_below HB.out hx344_2
     replace hx344_3 := pw_cell_below HB.out hx344_3
     replace hx344_4 := pw_cell_below HB.out hx344_4
     replace hx344_5 := pw_cell_below HB.out hx344_5
     replace hx344_6 := pw_cell_below HB.out hx344_6
     have HR344_4 := Aside0.mk hi344_4
     have HC344_4 := Aside0.mk hl344_4
     clear hi344_4 hl344_4
     have HR344_6 := Aside0.mk hi344_6
     have HC344_6 := Aside0.mk hl344_6
     clear hi344_6 hl344_6
     replace p344 := eq_true p344
     replace q344 := eq_true q344
     go_wp2_with (first | ((with_reducible refine gate_callee (f := 162) rfl ?_); refine goesL_ (some 18) rfl rfl Try.func162 (by kernel_rfl) rfl #[.agg #[.int .u8 ((rd_T27 l0_6 x4_1).f0), .string ((rd_T27 l0_6 x4_1).f1), .bool ((rd_T27 l0_6 x4_1).f2.f0), .string ((rd_T27 l0_6 x4_1).f2.f1), .slice A344_4 ((rd_T27 l0_6 x4_1).f2.f2).length c344_4, .int .i64 ((rd_T27 l0_6 x4_1).f3), .slice A344_6 ((rd_T27 l0_6 x4_1).f4).length c344_6]] rfl (by (try simp only [List.map_toArray, List.map_cons, List.map_nil]); first | done | rfl | (simp only [List.length_drop, List.length_take]; rfl)) ?_; (with_reducible refine (ih k1 (by have := HK1.out; omega) ((rd_T27 l0_6 x4_1).f0) ((rd_T27 l0_6 x4_1).f1) ((rd_T27 l0_6 x4_1).f2.f0) ((rd_T27 l0_6 x4_1).f2.f1) _ _ ((rd_T27 l0_6 x4_1).f2.f2) ((rd_T27 l0_6 x4_1).f3) _ _ ((rd_T27 l0_6 x4_1).f4) t345 _ ?side1 ?side2 ?side3 ?side4 A5.out).mono ?_); (case side1 => repeat (first | exact (Kd.C_below HR344_4.out HB.out) | (with_reducible refine Kd.C_alloc ?_ _) | (with_reducible refine Kd.C_drewN ?_ _) | (with_reducible refine Kd.C_drew ?_))); (case side2 => exact HC344_4.out); (case side3 => repeat (first | exact (Kd.C_below HR344_6.out HB.out) | (with_reducible refine Kd.C_alloc ?_ _) | (with_reducible refine Kd.C_drewN ?_ _) | (with_reducible refine Kd.C_drew ?_))); (case side4 => exact HC344_6.out); rintro e w8 ⟨rfl, hb⟩; refine ⟨_, rfl, ?_⟩; have n0_ := Aside0.mk (blk_below (g := gb343) (o := .cells #[.int .u8 a0_0, .string a0_1, .bool a0_2, .string a0_3, .slice A0_4 l0_4.length c0_4, .int .i64 a0_5, .slice (some ad344) l0_6.length c0_6] 27 (0, 0)) (bk_ BK343) hb); have n1_ := Aside0.mk (below_step bel_ hb); clear BK343; clear HB; have BK343 := n0_; have HB := n1_; clear n0_ n1_; (try clear hb); (try clear hb2); (try clear hk); (try clear hi)))
     go_roundg k1
     case measure => have := HK1.out; omega
     case rel => exact ⟨(ji6), (wrap64 (x4_1 + 1)), (by first | rfl | (simp; done) | (simp only [← hji6] <;> (first | rfl | simp)) | (simp [*]; done)), (by first | rfl | (simp; done) | (simp [*]; done)), H', ⟨by have := HK1.out; omega⟩, ⟨bk_ BK343⟩, ⟨bel_⟩⟩
    ·rw [if_neg c4] at H
     exact absurd H (by simp)
   ·rw [if_neg c3] at H
    have c3b0 : decide (x4_1 < (l0_6.length : Int)) = false := decide_eq_false c3
    clear c3
    obtain rfl := Option.some.inj H
    have hcz9_0 : wr.cell? ⟨gb343, 0, none⟩ = some (.int .u8 a0_0) := (blk_cell BK343.out 0).trans rfl
    have hcz9_1 : wr.cell? ⟨gb343, 1, none⟩ = some (.string a0_1) := (blk_cell BK343.out 1).trans rfl
    have hcz9_2 : wr.cell? ⟨gb343, 2, none⟩ = some (.bool a0_2) := (blk_cell BK343.out 2).trans rfl
    have hcz9_3 : wr.cell? ⟨gb343, 3, none⟩ = some (.string a0_3) := (blk_cell BK343.out 3).trans rfl
    have hcz9_4 : wr.cell? ⟨gb343, 4, none⟩ = some (.slice A0_4 l0_4.length c0_4) := (blk_cell BK343.out 4).trans rfl
    have hcz9_5 : wr.cell? ⟨gb343, 5, none⟩ = some (.int .i64 a0_5) := (blk_cell BK343.out 5).trans rfl
    have hcz9_6 : wr.cell? ⟨gb343, 6, none⟩ = some (.slice A0_6 l0_6.length c0_6) := (blk_cell BK343.out 6).trans rfl
    have hfz9_0 := blk_frozen BK343.out 0
    have hfz9_1 := blk_frozen BK343.out 1
    have hfz9_2 := blk_frozen BK343.out 2
    have hfz9_3 := blk_frozen BK343.out 3
    have hfz9_4 := blk_frozen BK343.out 4
    have hfz9_5 := blk_frozen BK343.out 5
    have hfz9_6 := blk_frozen BK343.out 6
    go_wp2
    go_ret
    exact ⟨by first | rfl | (simp [errW_none, errW_some] <;> rfl) | (simp [*, errW_none, errW_some] <;> rfl), bel_⟩

end Go.Proofs.Ytecplbgdalchdaa.Q
-- written by a program of this session (wip/tools/myprint.py) out of the translation
namespace Go.Proofs.Ytecplbgdalchdaa.Q
open Go.RowKit Go.Proofs.YtecplbgdalchdaaW.PrintWords Go.Proofs.YtecplbgdalchdaaW.PrintLast Go.Proofs.YtecplbgdalchdaaW.PrintMore
attribute [local go_sem] max2_int min2_int max_two min_two max_three min_three max_four min_four   -- for this text's walks alone
set_option linter.unusedVariables false
set_option linter.unusedSimpArgs false

/-! ### sequentref02_Small: function 90 -/
def sequentref02_Small.f (k : Nat) (a0_0 : Int) (a0_1 : ByteArray) (a0_2 : Bool) (a0_3 : ByteArray) (l0_4 : List (S24)) (a0_5 : Int) (l0_6 : List (S27)) : Option (Bool) := (sequentref02_Size.f k a0_0 a0_1 a0_2 a0_3 l0_4 a0_5 l0_6).bind fun t347 => (if t347 ≤ 32000 then ((sequentref02_Depth.f k a0_0 a0_1 a0_2 a0_3 l0_4 a0_5 l0_6).bind fun t348 => (some (decide (t348 ≤ 300)))) else (some false))
set_option maxHeartbeats 8000000 in
set_option maxRecDepth 100000 in
theorem sequentref02_Small.calls (k : Nat) (a0_0 : Int) (a0_1 : ByteArray) (a0_2 : Bool) (a0_3 : ByteArray) (A0_4 : Option Addr) (c0_4 : Nat) (l0_4 : List (S24)) (a0_5 : Int) (A0_6 : Option Addr) (c0_6 : Nat) (l0_6 : List (S27)) (r : Bool) (w : World) (hr0_4 : Kd.C k24 w A0_4 l0_4.length l0_4) (hc0_4 : l0_4.length ≤ c0_4) (hr0_6 : Kd.C k27 w A0_6 l0_6.length l0_6) (hc0_6 : l0_6.length ≤ c0_6) (h : sequentref02_Small.f k a0_0 a0_1 a0_2 a0_3 l0_4 a0_5 l0_6 = some r) :
 Calls Try.prog 90 #[.agg #[.int .u8 a0_0, .string a0_1, .bool a0_2, .string a0_3, .slice A0_4 l0_4.length c0_4, .int .i64 a0_5, .slice A0_6 l0_6.length c0_6]] w fun e w' => e = .returned (.bool r) ∧ Below w.heap.size w w' := by
 have hu27 := Try.underlying27
 have HR0_4 := Aside0.mk hr0_4
 have HC0_4 := Aside0.mk hc0_4
 clear hr0_4 hc0_4
 have HR0_6 := Aside0.mk hr0_6
 have HC0_6 := Aside0.mk hc0_6
 clear hr0_6 hc0_6
 have HB := Aside0.mk (Below.refl w.heap.size w)
 have H : ((sequentref02_Size.f k a0_0 a0_1 a0_2 a0_3 l0_4 a0_5 l0_6).bind fun t347 => (if t347 ≤ 32000 then ((sequentref02_Depth.f k a0_0 a0_1 a0_2 a0_3 l0_4 a0_5 l0_6).bind fun t348 => (some (decide (t348 ≤ 300)))) else (some false))) = some r := h
 clear h
 replace H := Option.bind_eq_some_iff.mp H
 obtain ⟨t347, A20, H⟩ := H
 replace H : (if t347 ≤ 32000 then ((sequentref02_Depth.f k a0_0 a0_1 a0_2 a0_3 l0_4 a0_5 l0_6).bind fun t348 => (some (decide (t348 ≤ 300)))) else (some false)) = some r := H
 have A2 := Aside0.mk A20
 clear A20
 by_cases c3 : t347 ≤ 32000
 ·rw [if_pos c3] at H
  have c3b0 : decide (t347 ≤ 32000) = true := decide_eq_true c3
  clear c3
  replace H := Option.bind_eq_some_iff.mp H
  obtain ⟨t348, A40, H⟩ := H
  replace H : (some (decide (t348 ≤ 300))) = some r := H
  have A4 := Aside0.mk A40
  clear A40
  obtain rfl := Option.some.inj H
  go_enter Try.func90, Try.ntmps90
  go_wp2_with (first | ((with_reducible refine gate_dst (N := 1) rfl ?_); refine box_event ?hg (N := 1) ?hd (cs := #[.int .u8 a0_0, .string a0_1, .bool a0_2, .string a0_3, .slice A0_4 l0_4.length c0_4, .int .i64 a0_5, .slice A0_6 l0_6.length c0_6]) (t := 27) ?hr ?_; (case hd => rfl); (case hg => rfl); (case hr => first | (go_simp; done) | (go_simp; rfl)); intro gb346 hg w5 hbox hb; have n0_ := Aside0.mk (below_step bel_ hb); have n1_ := Aside0.mk (hbox); have n2_ := Aside0.mk ((by rw [hg]; exact (below_size bel_) : w.heap.size ≤ gb346)); have n3_ := Aside0.mk ((by rw [hg]; exact (below_size bel_) : w.heap.size ≤ gb346)); clear HB; have HB := n0_; have BK346 := n1_; have GW346 := n2_; have GE346 := n3_; clear n0_ n1_ n2_ n3_; clear hb hbox hg; have hcz6_0 : w5.cell? ⟨gb346, 0, none⟩ = some (.int .u8 a0_0) := (blk_cell BK346.out 0).trans rfl; have hcz6_1 : w5.cell? ⟨gb346, 1, none⟩ = some (.string a0_1) := (blk_cell BK346.out 1).trans rfl; have hcz6_2 : w5.cell? ⟨gb346, 2, none⟩ = some (.bool a0_2) := (blk_cell BK346.out 2).trans rfl; have hcz6_3 : w5.cell? ⟨gb346, 3, none⟩ = some (.string a0_3) := (blk_cell BK346.out 3).trans rfl; have hcz6_4 : w5.cell? ⟨gb346, 4, none⟩ = some (.slice A0_4 l0_4.length c0_4) := (blk_cell BK346.out 4).trans rfl; have hcz6_5 : w5.cell? ⟨gb346, 5, none⟩ = some (.int .i64 a0_5) := (blk_cell BK346.out 5).trans rfl; have hcz6_6 : w5.cell? ⟨gb346, 6, none⟩ = some (.slice A0_6 l0_6.length c0_6) := (blk_cell BK346.out 6).trans rfl; have hfz6_0 := blk_frozen BK346.out 0; have hfz6_1 := blk_frozen BK346.out 1; have hfz6_2 := blk_frozen BK346.out 2; have hfz6_3 := blk_frozen BK346.out 3; have hfz6_4 := blk_frozen BK346.out 4; have hfz6_5 := blk_frozen BK346.out 5; have hfz6_6 := blk_frozen BK346.out 6) | ((with_reducible refine gate_callee (f := 36) rfl ?_); refine goesL_ (some 4) rfl rfl Try.func36 (by kernel_rfl) rfl #[.agg #[.int .u8 a0_0, .string a0_1, .bool a0_2, .string a0_3, .slice A0_4 l0_4.length c0_4, .int .i64 a0_5, .slice A0_6 l0_6.length c0_6]] rfl (by (try simp only [List.map_toArray, List.map_cons, List.map_nil]); first | done | rfl | (simp only [List.length_drop, List.length_take]; rfl)) ?_; (with_reducible refine (sequentref02_Size.calls k a0_0 a0_1 a0_2 a0_3 _ _ l0_4 a0_5 _ _ l0_6 t347 _ ?side1 ?side2 ?side3 ?side4 A2.out).mono ?_); (case side1 => repeat (first | exact (Kd.C_below HR0_4.out HB.out) | (with_reducible refine Kd.C_alloc ?_ _) | (with_reducible refine Kd.C_drewN ?_ _) | (with_reducible refine Kd.C_drew ?_))); (case side2 => exact HC0_4.out); (case side3 => repeat (first | exact (Kd.C_below HR0_6.out HB.out) | (with_reducible refine Kd.C_alloc ?_ _) | (with_reducible refine Kd.C_drewN ?_ _) | (with_reducible refine Kd.C_drew ?_))); (case side4 => exact HC0_6.out); rintro e w7 ⟨rfl, hb⟩; refine ⟨_, rfl, ?_⟩; have n0_ := Aside0.mk (blk_below (g := gb346) (o := .cells #[.int .u8 a0_0, .string a0_1, .bool a0_2, .string a0_3, .slice A0_4 l0_4.length c0_4, .int .i64 a0_5, .slice A0_6 l0_6.length c0_6] 27 (0, 0)) (bk_ BK346) hb); have n1_ := Aside0.mk (below_step bel_ hb); clear BK346; clear HB; have BK346 := n0_; have HB := n1_; clear n0_ n1_; (try clear hb); (try clear hb2); (try clear hk); (try clear hi); have hcz8_0 : w7.cell? ⟨gb346, 0, none⟩ = some (.int .u8 a0_0) := (blk_cell BK346.out 0).trans rfl; have hcz8_1 : w7.cell? ⟨gb346, 1, none⟩ = some (.string a0_1) := (blk_cell BK346.out 1).trans rfl; have hcz8_2 : w7.cell? ⟨gb346, 2, none⟩ = some (.bool a0_2) := (blk_cell BK346.out 2).trans rfl; have hcz8_3 : w7.cell? ⟨gb346, 3, none⟩ = some (.string a0_3) := (blk_cell BK346.out 3).trans rfl; have hcz8_4 : w7.cell? ⟨gb346, 4, none⟩ = some (.slice A0_4 l0_4.length c0_4) := (blk_cell BK346.out 4).trans rfl; have hcz8_5 : w7.cell? ⟨gb346, 5, none⟩ = some (.int .i64 a0_5) := (blk_cell BK346.out 5).trans rfl; have hcz8_6 : w7.cell? ⟨gb346, 6, none⟩ = some (.slice A0_6 l0_6.length c0_6) := (blk_cell BK346.out 6).trans rfl; have hfz8_0 := blk_frozen BK346.out 0; have hfz8_1 := blk_frozen BK346.out 1; have hfz8_2 := blk_frozen BK346.out 2; have hfz8_3 := blk_frozen BK346.out 3; have hfz8_4 := blk_frozen BK346.out 4; have hfz8_5 := blk_frozen BK346.out 5; have hfz8_6 := blk_frozen BK346.out 6) | (go_at_call 162; (with_reducible refine (sequentref02_Depth.calls k a0_0 a0_1 a0_2 a0_3 _ _ l0_4 a0_5 _ _ l0_6 t348 _ ?side1 ?side2 ?side3 ?side4 A4.out).mono ?_); (case side1 => repeat (first | exact (Kd.C_below HR0_4.out HB.out) | (with_reducible refine Kd.C_alloc ?_ _) | (with_reducible refine Kd.C_drewN ?_ _) | (with_reducible refine Kd.C_drew ?_))); (case side2 => exact HC0_4.out); (case side3 => repeat (first | exact (Kd.C_below HR0_6.out HB.out) | (with_reducible refine Kd.C_alloc ?_ _) | (with_reducible refine Kd.C_drewN ?_ _) | (with_reducible refine Kd.C_drew ?_))); (case side4 => exact HC0_6.out); rintro e w9 ⟨rfl, hb⟩; have n0_ := Aside0.mk (blk_below (g := gb346) (o := .cells #[.int .u8 a0_0, .string a0_1, .bool a0_2, .string a0_3, .slice A0_4 l0_4.length c0_4, .int .i64 a0_5, .slice A0_6 l0_6.length c0_6] 27 (0, 0)) (bk_ BK346) hb); have n1_ := Aside0.mk (below_step bel_ hb); clear BK346; clear HB; have BK346 := n0_; have HB := n1_; clear n0_ n1_; (try clear hb); (try clear hb2); (try clear hk); (try clear hi)))
  go_ret
  exact ⟨by first | rfl | (simp [errW_none, errW_some] <;> rfl) | (simp [*, errW_none, errW_some] <;> rfl), bel_⟩
 ·rw [if_neg c3] at H
  have c3b0 : decide (t347 ≤ 32000) = false := decide_eq_false c3
  clear c3
  obtain rfl := Option.some.inj H
  go_enter Try.func90, Try.ntmps90
  go_wp2_with (first | ((with_reducible refine gate_dst (N := 1) rfl ?_); refine box_event ?hg (N := 1) ?hd (cs := #[.int .u8 a0_0, .string a0_1, .bool a0_2, .string a0_3, .slice A0_4 l0_4.length c0_4, .int .i64 a0_5, .slice A0_6 l0_6.length c0_6]) (t := 27) ?hr ?_; (case hd => rfl); (case hg => rfl); (case hr => first | (go_simp; done) | (go_simp; rfl)); intro gb346 hg w10 hbox hb; have n0_ := Aside0.mk (below_step bel_ hb); have n1_ := Aside0.mk (hbox); have n2_ := Aside0.mk ((by rw [hg]; exact (below_size bel_) : w.heap.size ≤ gb346)); have n3_ := Aside0.mk ((by rw [hg]; exact (below_size bel_) : w.heap.size ≤ gb346)); clear HB; have HB := n0_; have BK346 := n1_; have GW346 := n2_; have GE346 := n3_; clear n0_ n1_ n2_ n3_; clear hb hbox hg; have hcz11_0 : w10.cell? ⟨gb346, 0, none⟩ = some (.int .u8 a0_0) := (blk_cell BK346.out 0).trans rfl; have hcz11_1 : w10.cell? ⟨gb346, 1, none⟩ = some (.string a0_1) := (blk_cell BK346.out 1).trans rfl; have hcz11_2 : w10.cell? ⟨gb346, 2, none⟩ = some (.bool a0_2) := (blk_cell BK346.out 2).trans rfl; have hcz11_3 : w10.cell? ⟨gb346, 3, none⟩ = some (.string a0_3) := (blk_cell BK346.out 3).trans rfl; have hcz11_4 : w10.cell? ⟨gb346, 4, none⟩ = some (.slice A0_4 l0_4.length c0_4) := (blk_cell BK346.out 4).trans rfl; have hcz11_5 : w10.cell? ⟨gb346, 5, none⟩ = some (.int .i64 a0_5) := (blk_cell BK346.out 5).trans rfl; have hcz11_6 : w10.cell? ⟨gb346, 6, none⟩ = some (.slice A0_6 l0_6.length c0_6) := (blk_cell BK346.out 6).trans rfl; have hfz11_0 := blk_frozen BK346.out 0; have hfz11_1 := blk_frozen BK346.out 1; have hfz11_2 := blk_frozen BK346.out 2; have hfz11_3 := blk_frozen BK346.out 3; have hfz11_4 := blk_frozen BK346.out 4; have hfz11_5 := blk_frozen BK346.out 5; have hfz11_6 := blk_frozen BK346.out 6) | ((with_reducible refine gate_callee (f := 36) rfl ?_); refine goesL_ (some 4) rfl rfl Try.func36 (by kernel_rfl) rfl #[.agg #[.int .u8 a0_0, .string a0_1, .bool a0_2, .string a0_3, .slice A0_4 l0_4.length c0_4, .int .i64 a0_5, .slice A0_6 l0_6.length c0_6]] rfl (by (try simp only [List.map_toArray, List.map_cons, List.map_nil]); first | done | rfl | (simp only [List.length_drop, List.length_take]; rfl)) ?_; (with_reducible refine (sequentref02_Size.calls k a0_0 a0_1 a0_2 a0_3 _ _ l0_4 a0_5 _ _ l0_6 t347 _ ?side1 ?side2 ?side3 ?side4 A2.out).mono ?_); (case side1 => repeat (first | exact (Kd.C_below HR0_4.out HB.out) | (with_reducible refine Kd.C_alloc ?_ _) | (with_reducible refine Kd.C_drewN ?_ _) | (with_reducible refine Kd.C_drew ?_))); (case side2 => exact HC0_4.out); (case side3 => repeat (first | exact (Kd.C_below HR0_6.out HB.out) | (with_reducible refine Kd.C_alloc ?_ _) | (with_reducible refine Kd.C_drewN ?_ _) | (with_reducible refine Kd.C_drew ?_))); (case side4 => exact HC0_6.out); rintro e w12 ⟨rfl, hb⟩; refine ⟨_, rfl, ?_⟩; have n0_ := Aside0.mk (blk_below (g := gb346) (o := .cells #[.int .u8 a0_0, .string a0_1, .bool a0_2, .string a0_3, .slice A0_4 l0_4.length c0_4, .int .i64 a0_5, .slice A0_6 l0_6.length c0_6] 27 (0, 0)) (bk_ BK346) hb); have n1_ := Aside0.mk (below_step bel_ hb); clear BK346; clear HB; have BK346 := n0_; have HB := n1_; clear n0_ n1_; (try clear hb); (try clear hb2); (try clear hk); (try clear hi)))
  go_ret
  exact ⟨by first | rfl | (simp [errW_none, errW_some] <;> rfl) | (simp [*, errW_none, errW_some] <;> rfl), bel_⟩

end Go.Proofs.Ytecplbgdalchdaa.Q
-- written by a program of this session (wip/tools/myprint.py) out of the translation
namespace Go.Proofs.Ytecplbgdalchdaa.Q
open Go.RowKit Go.Proofs.YtecplbgdalchdaaW.PrintWords Go.Proofs.YtecplbgdalchdaaW.PrintLast Go.Proofs.YtecplbgdalchdaaW.PrintMore
attribute [local go_sem] max2_int min2_int max_two min_two max_three min_three max_four min_four   -- for this text's walks alone
set_option linter.unusedVariables false
set_option linter.unusedSimpArgs false

/-! ### sequentref02_Great: function 16 -/
def sequentref02_Great.f (k : Nat) (a0_0 : Int) (a0_1 : ByteArray) (a0_2 : Bool) (a0_3 : ByteArray) (l0_4 : List (S24)) (a0_5 : Int) (l0_6 : List (S27)) : Option (Bool) := (sequentref02_count.f k a0_0 a0_1 a0_2 a0_3 l0_4 a0_5 l0_6 2000 400).bind fun t350 => (if t350 > 0 then (some false) else ((sequentref02_count.f k a0_0 a0_1 a0_2 a0_3 l0_4 a0_5 l0_6 40000 400).bind fun t351 => (if t351 ≤ 0 then (some true) else ((sequentref02_Small.f k a0_0 a0_1 a0_2 a0_3 l0_4 a0_5 l0_6).bind fun t352 => (some t352)))))
set_option maxHeartbeats 8000000 in
set_option maxRecDepth 100000 in
theorem sequentref02_Great.calls (k : Nat) (a0_0 : Int) (a0_1 : ByteArray) (a0_2 : Bool) (a0_3 : ByteArray) (A0_4 : Option Addr) (c0_4 : Nat) (l0_4 : List (S24)) (a0_5 : Int) (A0_6 : Option Addr) (c0_6 : Nat) (l0_6 : List (S27)) (r : Bool) (w : World) (hr0_4 : Kd.C k24 w A0_4 l0_4.length l0_4) (hc0_4 : l0_4.length ≤ c0_4) (hr0_6 : Kd.C k27 w A0_6 l0_6.length l0_6) (hc0_6 : l0_6.length ≤ c0_6) (h : sequentref02_Great.f k a0_0 a0_1 a0_2 a0_3 l0_4 a0_5 l0_6 = some r) :
 Calls Try.prog 16 #[.agg #[.int .u8 a0_0, .string a0_1, .bool a0_2, .string a0_3, .slice A0_4 l0_4.length c0_4, .int .i64 a0_5, .slice A0_6 l0_6.length c0_6]] w fun e w' => e = .returned (.bool r) ∧ Below w.heap.size w w' := by
 have hu27 := Try.underlying27
 have HR0_4 := Aside0.mk hr0_4
 have HC0_4 := Aside0.mk hc0_4
 clear hr0_4 hc0_4
 have HR0_6 := Aside0.mk hr0_6
 have HC0_6 := Aside0.mk hc0_6
 clear hr0_6 hc0_6
 have HB := Aside0.mk (Below.refl w.heap.size w)
 have H : ((sequentref02_count.f k a0_0 a0_1 a0_2 a0_3 l0_4 a0_5 l0_6 2000 400).bind fun t350 => (if t350 > 0 then (some false) else ((sequentref02_count.f k a0_0 a0_1 a0_2 a0_3 l0_4 a0_5 l0_6 40000 400).bind fun t351 => (if t351 ≤ 0 then (some true) else ((sequentref02_Small.f k a0_0 a0_1 a0_2 a0_3 l0_4 a0_5 l0_6).bind fun t352 => (some t352)))))) = some r := h
 clear h
 replace H := Option.bind_eq_some_iff.mp H
 obtain ⟨t350, A20, H⟩ := H
 replace H : (if t350 > 0 then (some false) else ((sequentref02_count.f k a0_0 a0_1 a0_2 a0_3 l0_4 a0_5 l0_6 40000 400).bind fun t351 => (if t351 ≤ 0 then (some true) else ((sequentref02_Small.f k a0_0 a0_1 a0_2 a0_3 l0_4 a0_5 l0_6).bind fun t352 => (some t352))))) = some r := H
 have A2 := Aside0.mk A20
 clear A20
 by_cases c3 : t350 > 0
 ·rw [if_pos c3] at H
  have c3b0 : decide (0 < t350) = true := decide_eq_true c3
  clear c3
  obtain rfl := Option.some.inj H
  go_enter Try.func16, Try.ntmps16
  go_wp2_with (first | ((with_reducible refine gate_dst (N := 1) rfl ?_); refine box_event ?hg (N := 1) ?hd (cs := #[.int .u8 a0_0, .string a0_1, .bool a0_2, .string a0_3, .slice A0_4 l0_4.length c0_4, .int .i64 a0_5, .slice A0_6 l0_6.length c0_6]) (t := 27) ?hr ?_; (case hd => rfl); (case hg => rfl); (case hr => first | (go_simp; done) | (go_simp; rfl)); intro gb349 hg w4 hbox hb; have n0_ := Aside0.mk (below_step bel_ hb); have n1_ := Aside0.mk (hbox); have n2_ := Aside0.mk ((by rw [hg]; exact (below_size bel_) : w.heap.size ≤ gb349)); have n3_ := Aside0.mk ((by rw [hg]; exact (below_size bel_) : w.heap.size ≤ gb349)); clear HB; have HB := n0_; have BK349 := n1_; have GW349 := n2_; have GE349 := n3_; clear n0_ n1_ n2_ n3_; clear hb hbox hg; have hcz5_0 : w4.cell? ⟨gb349, 0, none⟩ = some (.int .u8 a0_0) := (blk_cell BK349.out 0).trans rfl; have hcz5_1 : w4.cell? ⟨gb349, 1, none⟩ = some (.string a0_1) := (blk_cell BK349.out 1).trans rfl; have hcz5_2 : w4.cell? ⟨gb349, 2, none⟩ = some (.bool a0_2) := (blk_cell BK349.out 2).trans rfl; have hcz5_3 : w4.cell? ⟨gb349, 3, none⟩ = some (.string a0_3) := (blk_cell BK349.out 3).trans rfl; have hcz5_4 : w4.cell? ⟨gb349, 4, none⟩ = some (.slice A0_4 l0_4.length c0_4) := (blk_cell BK349.out 4).trans rfl; have hcz5_5 : w4.cell? ⟨gb349, 5, none⟩ = some (.int .i64 a0_5) := (blk_cell BK349.out 5).trans rfl; have hcz5_6 : w4.cell? ⟨gb349, 6, none⟩ = some (.slice A0_6 l0_6.length c0_6) := (blk_cell BK349.out 6).trans rfl; have hfz5_0 := blk_frozen BK349.out 0; have hfz5_1 := blk_frozen BK349.out 1; have hfz5_2 := blk_frozen BK349.out 2; have hfz5_3 := blk_frozen BK349.out 3; have hfz5_4 := blk_frozen BK349.out 4; have hfz5_5 := blk_frozen BK349.out 5; have hfz5_6 := blk_frozen BK349.out 6) | ((with_reducible refine gate_callee (f := 89) rfl ?_); refine goesL_ (some 4) rfl rfl Try.func89 (by kernel_rfl) rfl #[.agg #[.int .u8 a0_0, .string a0_1, .bool a0_2, .string a0_3, .slice A0_4 l0_4.length c0_4, .int .i64 a0_5, .slice A0_6 l0_6.length c0_6], .int .i64 2000, .int .i64 400] rfl (by (try simp only [List.map_toArray, List.map_cons, List.map_nil]); first | done | rfl | (simp only [List.length_drop, List.length_take]; rfl)) ?_; (with_reducible refine (sequentref02_count.calls k a0_0 a0_1 a0_2 a0_3 _ _ l0_4 a0_5 _ _ l0_6 2000 400 t350 _ ?side1 ?side2 ?side3 ?side4 A2.out).mono ?_); (case side1 => repeat (first | exact (Kd.C_below HR0_4.out HB.out) | (with_reducible refine Kd.C_alloc ?_ _) | (with_reducible refine Kd.C_drewN ?_ _) | (with_reducible refine Kd.C_drew ?_))); (case side2 => exact HC0_4.out); (case side3 => repeat (first | exact (Kd.C_below HR0_6.out HB.out) | (with_reducible refine Kd.C_alloc ?_ _) | (with_reducible refine Kd.C_drewN ?_ _) | (with_reducible refine Kd.C_drew ?_))); (case side4 => exact HC0_6.out); rintro e w6 ⟨rfl, hb⟩; refine ⟨_, rfl, ?_⟩; have n0_ := Aside0.mk (blk_below (g := gb349) (o := .cells #[.int .u8 a0_0, .string a0_1, .bool a0_2, .string a0_3, .slice A0_4 l0_4.length c0_4, .int .i64 a0_5, .slice A0_6 l0_6.length c0_6] 27 (0, 0)) (bk_ BK349) hb); have n1_ := Aside0.mk (below_step bel_ hb); clear BK349; clear HB; have BK349 := n0_; have HB := n1_; clear n0_ n1_; (try clear hb); (try clear hb2); (try clear hk); (try clear hi)))
  go_ret
  exact ⟨by first | rfl | (simp [errW_none, errW_some] <;> rfl) | (simp [*, errW_none, errW_some] <;> rfl), bel_⟩
 ·rw [if_neg c3] at H
  have c3b0 : decide (0 < t350) = false := decide_eq_false c3
  clear c3
  replace H := Option.bind_eq_some_iff.mp H
  obtain ⟨t351, A70, H⟩ := H
  replace H : (if t351 ≤ 0 then (some true) else ((sequentref02_Small.f k a0_0 a0_1 a0_2 a0_3 l0_4 a0_5 l0_6).bind fun t352 => (some t352))) = some r := H
  have A7 := Aside0.mk A70
  clear A70
  by_cases c8 : t351 ≤ 0
  ·rw [if_pos c8] at H
   have c8b0 : decide (t351 ≤ 0) = true := decide_eq_true c8
   clear c8
   obtain rfl := Option.some.inj H
   go_enter Try.func16, Try.ntmps16
   go_wp2_with (first | ((with_reducible refine gate_dst (N := 1) rfl ?_); refine box_event ?hg (N := 1) ?hd (cs := #[.int .u8 a0_0, .string a0_1, .bool a0_2, .string a0_3, .slice A0_4 l0_4.length c0_4, .int .i64 a0_5, .slice A0_6 l0_6.length c0_6]) (t := 27) ?hr ?_; (case hd => rfl); (case hg => rfl); (case hr => first | (go_simp; done) | (go_simp; rfl)); intro gb349 hg w9 hbox hb; have n0_ := Aside0.mk (below_step bel_ hb); have n1_ := Aside0.mk (hbox); have n2_ := Aside0.mk ((by rw [hg]; exact (below_size bel_) : w.heap.size ≤ gb349)); have n3_ := Aside0.mk ((by rw [hg]; exact (below_size bel_) : w.heap.size ≤ gb349)); clear HB; have HB := n0_; have BK349 := n1_; have GW349 := n2_; have GE349 := n3_; clear n0_ n1_ n2_ n3_; clear hb hbox hg; have hcz10_0 : w9.cell? ⟨gb349, 0, none⟩ = some (.int .u8 a0_0) := (blk_cell BK349.out 0).trans rfl; have hcz10_1 : w9.cell? ⟨gb349, 1, none⟩ = some (.string a0_1) := (blk_cell BK349.out 1).trans rfl; have hcz10_2 : w9.cell? ⟨gb349, 2, none⟩ = some (.bool a0_2) := (blk_cell BK349.out 2).trans rfl; have hcz10_3 : w9.cell? ⟨gb349, 3, none⟩ = some (.string a0_3) := (blk_cell BK349.out 3).trans rfl; have hcz10_4 : w9.cell? ⟨gb349, 4, none⟩ = some (.slice A0_4 l0_4.length c0_4) := (blk_cell BK349.out 4).trans rfl; have hcz10_5 : w9.cell? ⟨gb349, 5, none⟩ = some (.int .i64 a0_5) := (blk_cell BK349.out 5).trans rfl; have hcz10_6 : w9.cell? ⟨gb349, 6, none⟩ = some (.slice A0_6 l0_6.length c0_6) := (blk_cell BK349.out 6).trans rfl; have hfz10_0 := blk_frozen BK349.out 0; have hfz10_1 := blk_frozen BK349.out 1; have hfz10_2 := blk_frozen BK349.out 2; have hfz10_3 := blk_frozen BK349.out 3; have hfz10_4 := blk_frozen BK349.out 4; have hfz10_5 := blk_frozen BK349.out 5; have hfz10_6 := blk_frozen BK349.out 6) | ((with_reducible refine gate_callee (f := 89) rfl ?_); refine goesL_ (some 4) rfl rfl Try.func89 (by kernel_rfl) rfl #[.agg #[.int .u8 a0_0, .string a0_1, .bool a0_2, .string a0_3, .slice A0_4 l0_4.length c0_4, .int .i64 a0_5, .slice A0_6 l0_6.length c0_6], .int .i64 2000, .int .i64 400] rfl (by (try simp only [List.map_toArray, List.map_cons, List.map_nil]); first | done | rfl | (simp only [List.length_drop, List.length_take]; rfl)) ?_; (with_reducible refine (sequentref02_count.calls k a0_0 a0_1 a0_2 a0_3 _ _ l0_4 a0_5 _ _ l0_6 2000 400 t350 _ ?side1 ?side2 ?side3 ?side4 A2.out).mono ?_); (case side1 => repeat (first | exact (Kd.C_below HR0_4.out HB.out) | (with_reducible refine Kd.C_alloc ?_ _) | (with_reducible refine Kd.C_drewN ?_ _) | (with_reducible refine Kd.C_drew ?_))); (case side2 => exact HC0_4.out); (case side3 => repeat (first | exact (Kd.C_below HR0_6.out HB.out) | (with_reducible refine Kd.C_alloc ?_ _) | (with_reducible refine Kd.C_drewN ?_ _) | (with_reducible refine Kd.C_drew ?_))); (case side4 => exact HC0_6.out); rintro e w11 ⟨rfl, hb⟩; refine ⟨_, rfl, ?_⟩; have n0_ := Aside0.mk (blk_below (g := gb349) (o := .cells #[.int .u8 a0_0, .string a0_1, .bool a0_2, .string a0_3, .slice A0_4 l0_4.length c0_4, .int .i64 a0_5, .slice A0_6 l0_6.length c0_6] 27 (0, 0)) (bk_ BK349) hb); have n1_ := Aside0.mk (below_step bel_ hb); clear BK349; clear HB; have BK349 := n0_; have HB := n1_; clear n0_ n1_; (try clear hb); (try clear hb2); (try clear hk); (try clear hi); have hcz12_0 : w11.cell? ⟨gb349, 0, none⟩ = some (.int .u8 a0_0) := (blk_cell BK349.out 0).trans rfl; have hcz12_1 : w11.cell? ⟨gb349, 1, none⟩ = some (.string a0_1) := (blk_cell BK349.out 1).trans rfl; have hcz12_2 : w11.cell? ⟨gb349, 2, none⟩ = some (.bool a0_2) := (blk_cell BK349.out 2).trans rfl; have hcz12_3 : w11.cell? ⟨gb349, 3, none⟩ = some (.string a0_3) := (blk_cell BK349.out 3).trans rfl; have hcz12_4 : w11.cell? ⟨gb349, 4, none⟩ = some (.slice A0_4 l0_4.length c0_4) := (blk_cell BK349.out 4).trans rfl; have hcz12_5 : w11.cell? ⟨gb349, 5, none⟩ = some (.int .i64 a0_5) := (blk_cell BK349.out 5).trans rfl; have hcz12_6 : w11.cell? ⟨gb349, 6, none⟩ = some (.slice A0_6 l0_6.length c0_6) := (blk_cell BK349.out 6).trans rfl; have hfz12_0 := blk_frozen BK349.out 0; have hfz12_1 := blk_frozen BK349.out 1; have hfz12_2 := blk_frozen BK349.out 2; have hfz12_3 := blk_frozen BK349.out 3; have hfz12_4 := blk_frozen BK349.out 4; have hfz12_5 := blk_frozen BK349.out 5; have hfz12_6 := blk_frozen BK349.out 6) | ((with_reducible refine gate_callee (f := 89) rfl ?_); refine goesL_ (some 7) rfl rfl Try.func89 (by kernel_rfl) rfl #[.agg #[.int .u8 a0_0, .string a0_1, .bool a0_2, .string a0_3, .slice A0_4 l0_4.length c0_4, .int .i64 a0_5, .slice A0_6 l0_6.length c0_6], .int .i64 40000, .int .i64 400] rfl (by (try simp only [List.map_toArray, List.map_cons, List.map_nil]); first | done | rfl | (simp only [List.length_drop, List.length_take]; rfl)) ?_; (with_reducible refine (sequentref02_count.calls k a0_0 a0_1 a0_2 a0_3 _ _ l0_4 a0_5 _ _ l0_6 40000 400 t351 _ ?side1 ?side2 ?side3 ?side4 A7.out).mono ?_); (case side1 => repeat (first | exact (Kd.C_below HR0_4.out HB.out) | (with_reducible refine Kd.C_alloc ?_ _) | (with_reducible refine Kd.C_drewN ?_ _) | (with_reducible refine Kd.C_drew ?_))); (case side2 => exact HC0_4.out); (case side3 => repeat (first | exact (Kd.C_below HR0_6.out HB.out) | (with_reducible refine Kd.C_alloc ?_ _) | (with_reducible refine Kd.C_drewN ?_ _) | (with_reducible refine Kd.C_drew ?_))); (case side4 => exact HC0_6.out); rintro e w13 ⟨rfl, hb⟩; refine ⟨_, rfl, ?_⟩; have n0_ := Aside0.mk (blk_below (g := gb349) (o := .cells #[.int .u8 a0_0, .string a0_1, .bool a0_2, .string a0_3, .slice A0_4 l0_4.length c0_4, .int .i64 a0_5, .slice A0_6 l0_6.length c0_6] 27 (0, 0)) (bk_ BK349) hb); have n1_ := Aside0.mk (below_step bel_ hb); clear BK349; clear HB; have BK349 := n0_; have HB := n1_; clear n0_ n1_; (try clear hb); (try clear hb2); (try clear hk); (try clear hi)))
   go_ret
   exact ⟨by first | rfl | (simp [errW_none, errW_some] <;> rfl) | (simp [*, errW_none, errW_some] <;> rfl), bel_⟩
  ·rw [if_neg c8] at H
   have c8b0 : decide (t351 ≤ 0) = false := decide_eq_false c8
   clear c8
   replace H := Option.bind_eq_some_iff.mp H
   obtain ⟨t352, A140, H⟩ := H
   replace H : (some t352) = some r := H
   have A14 := Aside0.mk A140
   clear A140
   obtain rfl := Option.some.inj H
   go_enter Try.func16, Try.ntmps16
   go_wp2_with (first | ((with_reducible refine gate_dst (N := 1) rfl ?_); refine box_event ?hg (N := 1) ?hd (cs := #[.int .u8 a0_0, .string a0_1, .bool a0_2, .string a0_3, .slice A0_4 l0_4.length c0_4, .int .i64 a0_5, .slice A0_6 l0_6.length c0_6]) (t := 27) ?hr ?_; (case hd => rfl); (case hg => rfl); (case hr => first | (go_simp; done) | (go_simp; rfl)); intro gb349 hg w15 hbox hb; have n0_ := Aside0.mk (below_step bel_ hb); have n1_ := Aside0.mk (hbox); have n2_ := Aside0.mk ((by rw [hg]; exact (below_size bel_) : w.heap.size ≤ gb349)); have n3_ := Aside0.mk ((by rw [hg]; exact (below_size bel_) : w.heap.size ≤ gb349)); clear HB; have HB := n0_; have BK349 := n1_; have GW349 := n2_; have GE349 := n3_; clear n0_ n1_ n2_ n3_; clear hb hbox hg; have hcz16_0 : w15.cell? ⟨gb349, 0, none⟩ = some (.int .u8 a0_0) := (blk_cell BK349.out 0).trans rfl; have hcz16_1 : w15.cell? ⟨gb349, 1, none⟩ = some (.string a0_1) := (blk_cell BK349.out 1).trans rfl; have hcz16_2 : w15.cell? ⟨gb349, 2, none⟩ = some (.bool a0_2) := (blk_cell BK349.out 2).trans rfl; have hcz16_3 : w15.cell? ⟨gb349, 3, none⟩ = some (.string a0_3) := (blk_cell BK349.out 3).trans rfl; have hcz16_4 : w15.cell? ⟨gb349, 4, none⟩ = some (.slice A0_4 l0_4.length c0_4) := (blk_cell BK349.out 4).trans rfl; have hcz16_5 : w15.cell? ⟨gb349, 5, none⟩ = some (.int .i64 a0_5) := (blk_cell BK349.out 5).trans rfl; have hcz16_6 : w15.cell? ⟨gb349, 6, none⟩ = some (.slice A0_6 l0_6.length c0_6) := (blk_cell BK349.out 6).trans rfl; have hfz16_0 := blk_frozen BK349.out 0; have hfz16_1 := blk_frozen BK349.out 1; have hfz16_2 := blk_frozen BK349.out 2; have hfz16_3 := blk_frozen BK349.out 3; have hfz16_4 := blk_frozen BK349.out 4; have hfz16_5 := blk_frozen BK349.out 5; have hfz16_6 := blk_frozen BK349.out 6) | ((with_reducible refine gate_callee (f := 89) rfl ?_); refine goesL_ (some 4) rfl rfl Try.func89 (by kernel_rfl) rfl #[.agg #[.int .u8 a0_0, .string a0_1, .bool a0_2, .string a0_3, .slice A0_4 l0_4.length c0_4, .int .i64 a0_5, .slice A0_6 l0_6.length c0_6], .int .i64 2000, .int .i64 400] rfl (by (try simp only [List.map_toArray, List.map_cons, List.map_nil]); first | done | rfl | (simp only [List.length_drop, List.length_take]; rfl)) ?_; (with_reducible refine (sequentref02_count.calls k a0_0 a0_1 a0_2 a0_3 _ _ l0_4 a0_5 _ _ l0_6 2000 400 t350 _ ?side1 ?side2 ?side3 ?side4 A2.out).mono ?_); (case side1 => repeat (first | exact (Kd.C_below HR0_4.out HB.out) | (with_reducible refine Kd.C_alloc ?_ _) | (with_reducible refine Kd.C_drewN ?_ _) | (with_reducible refine Kd.C_drew ?_))); (case side2 => exact HC0_4.out); (case side3 => repeat (first | exact (Kd.C_below HR0_6.out HB.out) | (with_reducible refine Kd.C_alloc ?_ _) | (with_reducible refine Kd.C_drewN ?_ _) | (with_reducible refine Kd.C_drew ?_))); (case side4 => exact HC0_6.out); rintro e w17 ⟨rfl, hb⟩; refine ⟨_, rfl, ?_⟩; have n0_ := Aside0.mk (blk_below (g := gb349) (o := .cells #[.int .u8 a0_0, .string a0_1, .bool a0_2, .string a0_3, .slice A0_4 l0_4.length c0_4, .int .i64 a0_5, .slice A0_6 l0_6.length c0_6] 27 (0, 0)) (bk_ BK349) hb); have n1_ := Aside0.mk (below_step bel_ hb); clear BK349; clear HB; have BK349 := n0_; have HB := n1_; clear n0_ n1_; (try clear hb); (try clear hb2); (try clear hk); (try clear hi); have hcz18_0 : w17.cell? ⟨gb349, 0, none⟩ = some (.int .u8 a0_0) := (blk_cell BK349.out 0).trans rfl; have hcz18_1 : w17.cell? ⟨gb349, 1, none⟩ = some (.string a0_1) := (blk_cell BK349.out 1).trans rfl; have hcz18_2 : w17.cell? ⟨gb349, 2, none⟩ = some (.bool a0_2) := (blk_cell BK349.out 2).trans rfl; have hcz18_3 : w17.cell? ⟨gb349, 3, none⟩ = some (.string a0_3) := (blk_cell BK349.out 3).trans rfl; have hcz18_4 : w17.cell? ⟨gb349, 4, none⟩ = some (.slice A0_4 l0_4.length c0_4) := (blk_cell BK349.out 4).trans rfl; have hcz18_5 : w17.cell? ⟨gb349, 5, none⟩ = some (.int .i64 a0_5) := (blk_cell BK349.out 5).trans rfl; have hcz18_6 : w17.cell? ⟨gb349, 6, none⟩ = some (.slice A0_6 l0_6.length c0_6) := (blk_cell BK349.out 6).trans rfl; have hfz18_0 := blk_frozen BK349.out 0; have hfz18_1 := blk_frozen BK349.out 1; have hfz18_2 := blk_frozen BK349.out 2; have hfz18_3 := blk_frozen BK349.out 3; have hfz18_4 := blk_frozen BK349.out 4; have hfz18_5 := blk_frozen BK349.out 5; have hfz18_6 := blk_frozen BK349.out 6) | ((with_reducible refine gate_callee (f := 89) rfl ?_); refine goesL_ (some 7) rfl rfl Try.func89 (by kernel_rfl) rfl #[.agg #[.int .u8 a0_0, .string a0_1, .bool a0_2, .string a0_3, .slice A0_4 l0_4.length c0_4, .int .i64 a0_5, .slice A0_6 l0_6.length c0_6], .int .i64 40000, .int .i64 400] rfl (by (try simp only [List.map_toArray, List.map_cons, List.map_nil]); first | done | rfl | (simp only [List.length_drop, List.length_take]; rfl)) ?_; (with_reducible refine (sequentref02_count.calls k a0_0 a0_1 a0_2 a0_3 _ _ l0_4 a0_5 _ _ l0_6 40000 400 t351 _ ?side1 ?side2 ?side3 ?side4 A7.out).mono ?_); (case side1 => repeat (first | exact (Kd.C_below HR0_4.out HB.out) | (with_reducible refine Kd.C_alloc ?_ _) | (with_reducible refine Kd.C_drewN ?_ _) | (with_reducible refine Kd.C_drew ?_))); (case side2 => exact HC0_4.out); (case side3 => repeat (first | exact (Kd.C_below HR0_6.out HB.out) | (with_reducible refine Kd.C_alloc ?_ _) | (with_reducible refine Kd.C_drewN ?_ _) | (with_reducible refine Kd.C_drew ?_))); (case side4 => exact HC0_6.out); rintro e w19 ⟨rfl, hb⟩; refine ⟨_, rfl, ?_⟩; have n0_ := Aside0.mk (blk_below (g := gb349) (o := .cells #[.int .u8 a0_0, .string a0_1, .bool a0_2, .string a0_3, .slice A0_4 l0_4.length c0_4, .int .i64 a0_5, .slice A0_6 l0_6.length c0_6] 27 (0, 0)) (bk_ BK349) hb); have n1_ := Aside0.mk (below_step bel_ hb); clear BK349; clear HB; have BK349 := n0_; have HB := n1_; clear n0_ n1_; (try clear hb); (try clear hb2); (try clear hk); (try clear hi); have hcz20_0 : w19.cell? ⟨gb349, 0, none⟩ = some (.int .u8 a0_0) := (blk_cell BK349.out 0).trans rfl; have hcz20_1 : w19.cell? ⟨gb349, 1, none⟩ = some (.string a0_1) := (blk_cell BK349.out 1).trans rfl; have hcz20_2 : w19.cell? ⟨gb349, 2, none⟩ = some (.bool a0_2) := (blk_cell BK349.out 2).trans rfl; have hcz20_3 : w19.cell? ⟨gb349, 3, none⟩ = some (.string a0_3) := (blk_cell BK349.out 3).trans rfl; have hcz20_4 : w19.cell? ⟨gb349, 4, none⟩ = some (.slice A0_4 l0_4.length c0_4) := (blk_cell BK349.out 4).trans rfl; have hcz20_5 : w19.cell? ⟨gb349, 5, none⟩ = some (.int .i64 a0_5) := (blk_cell BK349.out 5).trans rfl; have hcz20_6 : w19.cell? ⟨gb349, 6, none⟩ = some (.slice A0_6 l0_6.length c0_6) := (blk_cell BK349.out 6).trans rfl; have hfz20_0 := blk_frozen BK349.out 0; have hfz20_1 := blk_frozen BK349.out 1; have hfz20_2 := blk_frozen BK349.out 2; have hfz20_3 := blk_frozen BK349.out 3; have hfz20_4 := blk_frozen BK349.out 4; have hfz20_5 := blk_frozen BK349.out 5; have hfz20_6 := blk_frozen BK349.out 6) | (go_at_call 90; (with_reducible refine (sequentref02_Small.calls k a0_0 a0_1 a0_2 a0_3 _ _ l0_4 a0_5 _ _ l0_6 t352 _ ?side1 ?side2 ?side3 ?side4 A14.out).mono ?_); (case side1 => repeat (first | exact (Kd.C_below HR0_4.out HB.out) | (with_reducible refine Kd.C_alloc ?_ _) | (with_reducible refine Kd.C_drewN ?_ _) | (with_reducible refine Kd.C_drew ?_))); (case side2 => exact HC0_4.out); (case side3 => repeat (first | exact (Kd.C_below HR0_6.out HB.out) | (with_reducible refine Kd.C_alloc ?_ _) | (with_reducible refine Kd.C_drewN ?_ _) | (with_reducible refine Kd.C_drew ?_))); (case side4 => exact HC0_6.out); rintro e w21 ⟨rfl, hb⟩; have n0_ := Aside0.mk (blk_below (g := gb349) (o := .cells #[.int .u8 a0_0, .string a0_1, .bool a0_2, .string a0_3, .slice A0_4 l0_4.length c0_4, .int .i64 a0_5, .slice A0_6 l0_6.length c0_6] 27 (0, 0)) (bk_ BK349) hb); have n1_ := Aside0.mk (below_step bel_ hb); clear BK349; clear HB; have BK349 := n0_; have HB := n1_; clear n0_ n1_; (try clear hb); (try clear hb2); (try clear hk); (try clear hi)))
   go_ret
   exact ⟨by first | rfl | (simp [errW_none, errW_some] <;> rfl) | (simp [*, errW_none, errW_some] <;> rfl), bel_⟩

end Go.Proofs.Ytecplbgdalchdaa.Q
-- written by a program of this session (wip/tools/myprint.py) out of the translation
namespace Go.Proofs.Ytecplbgdalchdaa.Q
open Go.RowKit Go.Proofs.YtecplbgdalchdaaW.PrintWords Go.Proofs.YtecplbgdalchdaaW.PrintLast Go.Proofs.YtecplbgdalchdaaW.PrintMore
attribute [local go_sem] max2_int min2_int max_two min_two max_three min_three max_four min_four   -- for this text's walks alone
set_option linter.unusedVariables false
set_option linter.unusedSimpArgs false

/-! ### sequentref02_sign: function 107 -/
def sequentref02_sign.f (a0 : Bool) (a1 : Bool) : Option (Int) := if a1 = true then (some 0) else (if a0 = true then (some (-1)) else (some 1))
set_option maxHeartbeats 8000000 in
set_option maxRecDepth 100000 in
theorem sequentref02_sign.calls (a0 : Bool) (a1 : Bool) (r : Int) (w : World) (h : sequentref02_sign.f a0 a1 = some r) :
 Calls Try.prog 107 #[.bool a0, .bool a1] w fun e w' => e = .returned (.int .i64 r) ∧ Drawn0 w w' := by
 have H : (if a1 = true then (some 0) else (if a0 = true then (some (-1)) else (some 1))) = some r := h
 clear h
 by_cases c3 : a1 = true
 ·subst c3
  have H1 : (some 0) = some r := by rw [if_pos rfl] at H; exact H
  clear H
  have H := H1
  clear H1
  obtain rfl := Option.some.inj H
  go_enter Try.func107, Try.ntmps107
  go_wp2
  go_ret
  exact ⟨by first | rfl | (simp; done) | (simp [*]; done), by repeat (first | exact Drawn0.refl _ | apply Drawn0.step)⟩
 ·replace c3 := Bool.eq_false_iff.mpr c3
  subst c3
  have H1 : (if a0 = true then (some (-1)) else (some 1)) = some r := by rw [if_neg (show ¬ (false = true) by decide)] at H; exact H
  clear H
  have H := H1
  clear H1
  by_cases c4 : a0 = true
  ·subst c4
   have H1 : (some (-1)) = some r := by rw [if_pos rfl] at H; exact H
   clear H
   have H := H1
   clear H1
   obtain rfl := Option.some.inj H
   go_enter Try.func107, Try.ntmps107
   go_wp2
   go_ret
   exact ⟨by first | rfl | (simp; done) | (simp [*]; done), by repeat (first | exact Drawn0.refl _ | apply Drawn0.step)⟩
  ·replace c4 := Bool.eq_false_iff.mpr c4
   subst c4
   have H1 : (some 1) = some r := by rw [if_neg (show ¬ (false = true) by decide)] at H; exact H
   clear H
   have H := H1
   clear H1
   obtain rfl := Option.some.inj H
   go_enter Try.func107, Try.ntmps107
   go_wp2
   go_ret
   exact ⟨by first | rfl | (simp; done) | (simp [*]; done), by repeat (first | exact Drawn0.refl _ | apply Drawn0.step)⟩

end Go.Proofs.Ytecplbgdalchdaa.Q
