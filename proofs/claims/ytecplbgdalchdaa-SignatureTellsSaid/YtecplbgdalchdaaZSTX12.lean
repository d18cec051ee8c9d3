/- Proved here: parts of the proof of a given statement (HRowSignatureTells): contracts of the functions that it reaches, what they answer, and in the last text the statement itself. Conditions: those that each theorem names. -/
import Derived.Test.YtecplbgdalchdaaZSTX3
-- written by a program of this session (wip/tools/myprint.py) out of the translation
namespace Go.Proofs.Ytecplbgdalchdaa.Q
open Go.RowKit Go.Proofs.YtecplbgdalchdaaW.PrintWords Go.Proofs.YtecplbgdalchdaaW.PrintLast Go.Proofs.YtecplbgdalchdaaW.PrintMore
attribute [local go_sem] max2_int min2_int max_two min_two max_three min_three max_four min_four   -- for this text's walks alone
set_option linter.unusedVariables false
set_option linter.unusedSimpArgs false

/-! ### sequentref01_Compare: function 106 -/
mutual
def sequentref01_Compare.l0 : Nat → Int → Bool → ByteArray → List (S24) → Bool → ByteArray → List (S24) → Option (Int)
 | 0, _, _, _, _, _, _, _ => none
 | k + 1, x5, x183000, x183001, x183002, x184000, x184001, x184002 => if x5 < (x183002.length : Int) then (if 0 ≤ x5 then (if x5 < (x184002.length : Int) then ((sequentref01_Compare.f k ((rd_T24 x183002 x5).f0) ((rd_T24 x183002 x5).f1) ((rd_T24 x183002 x5).f2) ((rd_T24 x184002 x5).f0) ((rd_T24 x184002 x5).f1) ((rd_T24 x184002 x5).f2)).bind fun t186 => (if t186 = 0 then (sequentref01_Compare.l0 k (wrap64 (x5 + 1)) x183000 x183001 x183002 x184000 x184001 x184002) else (some t186))) else (none)) else (none)) else (some 0)
def sequentref01_Compare.f : Nat → Bool → ByteArray → List (S24) → Bool → ByteArray → List (S24) → Option (Int)
 | 0, _, _, _, _, _, _ => none
 | k + 1, a0_0, a0_1, l0_2, a1_0, a1_1, l1_2 => if (a0_0 != a1_0) = true then (if a0_0 = true then (some (-1)) else (some 1)) else (if a0_1.toList = a1_1.toList then (if (l0_2.length : Int) = (l1_2.length : Int) then (sequentref01_Compare.l0 k 0 a0_0 a0_1 l0_2 a1_0 a1_1 l1_2) else (if (l0_2.length : Int) < (l1_2.length : Int) then (some (-1)) else (some 1))) else (if (Op.bytesLess a0_1.toList a1_1.toList) = true then (some (-1)) else (some 1)))
end
def sequentref01_Compare.T16 : Bool × List (List Nat × List Nat) := (true, [([], []), ([0], [0]), ([], []), ([1, 2], [1, 2]), ([3], [3]), ([], []), ([5], [5]), ([], []), ([6, 7], [6, 7]), ([8], [8]), ([4, 9], [4, 9]), ([10, 10, 0, 1, 2, 3, 4, 5, 6, 7, 8, 9, 10], [10])])
def sequentref01_Compare.B16 : List Nat := [0, 1, 0, 7, 15, 0, 32, 0, 224, 480, 1023, 2047]
theorem sequentref01_Compare.tab16 : rtab .any (opsOf Try.f106 16) = sequentref01_Compare.T16 := by kernel_rfl
theorem sequentref01_Compare.bits16 : waitsOk sequentref01_Compare.T16.2 sequentref01_Compare.B16 = true := by kernel_rfl
set_option maxHeartbeats 8000000 in
set_option maxRecDepth 100000 in
theorem sequentref01_Compare.calls (k : Nat) : ∀ (a0_0 : Bool) (a0_1 : ByteArray) (A0_2 : Option Addr) (c0_2 : Nat) (l0_2 : List (S24)) (a1_0 : Bool) (a1_1 : ByteArray) (A1_2 : Option Addr) (c1_2 : Nat) (l1_2 : List (S24)) (r : Int) (w : World) (hr0_2 : Kd.C k24 w A0_2 l0_2.length l0_2) (hc0_2 : l0_2.length ≤ c0_2) (hr1_2 : Kd.C k24 w A1_2 l1_2.length l1_2) (hc1_2 : l1_2.length ≤ c1_2) (h : sequentref01_Compare.f k a0_0 a0_1 l0_2 a1_0 a1_1 l1_2 = some r),
 Calls Try.prog 106 #[.agg #[.bool a0_0, .string a0_1, .slice A0_2 l0_2.length c0_2], .agg #[.bool a1_0, .string a1_1, .slice A1_2 l1_2.length c1_2]] w fun e w' => e = .returned (.int .i64 r) ∧ Below w.heap.size w w' := by
 induction k using Nat.strongRecOn with
 | _ k ih =>
 intro a0_0 a0_1 A0_2 c0_2 l0_2 a1_0 a1_1 A1_2 c1_2 l1_2 r w hr0_2 hc0_2 hr1_2 hc1_2 h
 cases k with
 | zero => exact absurd h (by simp [sequentref01_Compare.f])
 | succ k =>
 simp only [sequentref01_Compare.f] at h
 have hu24 := Try.underlying24
 have HR0_2 := Aside0.mk hr0_2
 have HC0_2 := Aside0.mk hc0_2
 clear hr0_2 hc0_2
 have HR1_2 := Aside0.mk hr1_2
 have HC1_2 := Aside0.mk hc1_2
 clear hr1_2 hc1_2
 have HB := Aside0.mk (Below.refl w.heap.size w)
 have H : (if (a0_0 != a1_0) = true then (if a0_0 = true then (some (-1)) else (some 1)) else (if a0_1.toList = a1_1.toList then (if (l0_2.length : Int) = (l1_2.length : Int) then (sequentref01_Compare.l0 k 0 a0_0 a0_1 l0_2 a1_0 a1_1 l1_2) else (if (l0_2.length : Int) < (l1_2.length : Int) then (some (-1)) else (some 1))) else (if (Op.bytesLess a0_1.toList a1_1.toList) = true then (some (-1)) else (some 1)))) = some r := h
 clear h
 by_cases c3 : (a0_0 != a1_0) = true
 ·rw [if_pos c3] at H
  have c3b0 : (a0_0 != a1_0) = true := c3
  (try (have c3b1 : decide (a0_0 = a1_0) = false := by simpa using c3))
  (try (have c3b2 : (a0_0 == a1_0) = false := by simpa using c3))
  (try (have c3b3 : ¬ (a0_0 = a1_0) := by simpa using c3))
  clear c3
  by_cases c4 : a0_0 = true
  ·subst c4
   have H1 : (some (-1)) = some r := by rw [if_pos rfl] at H; exact H
   clear H
   have H := H1
   clear H1
   obtain rfl := Option.some.inj H
   go_enter Try.func106, Try.ntmps106
   go_wp2_with (first | ((with_reducible refine gate_dst (N := 2) rfl ?_); refine box_event ?hg (N := 2) ?hd (cs := #[.bool true, .string a0_1, .slice A0_2 l0_2.length c0_2]) (t := 24) ?hr ?_; (case hd => rfl); (case hg => rfl); (case hr => first | (go_simp; done) | (go_simp; rfl)); intro gb182 hg w5 hbox hb; have n0_ := Aside0.mk (below_step bel_ hb); have n1_ := Aside0.mk (hbox); have n2_ := Aside0.mk ((by rw [hg]; exact (below_size bel_) : w.heap.size ≤ gb182)); have n3_ := Aside0.mk ((by rw [hg]; exact (below_size bel_) : w.heap.size ≤ gb182)); clear HB; have HB := n0_; have BK182 := n1_; have GW182 := n2_; have GE182 := n3_; clear n0_ n1_ n2_ n3_; clear hb hbox hg) | ((with_reducible refine gate_dst (N := 3) rfl ?_); refine box_event ?hg (N := 3) ?hd (cs := #[.bool a1_0, .string a1_1, .slice A1_2 l1_2.length c1_2]) (t := 24) ?hr ?_; (case hd => rfl); (case hg => rfl); (case hr => first | (go_simp; done) | (go_simp; rfl)); intro gb183 hg w6 hbox hb; have n0_ := Aside0.mk (blk_below (g := gb182) (o := .cells #[.bool true, .string a0_1, .slice A0_2 l0_2.length c0_2] 24 (0, 0)) (bk_ BK182) hb); have n1_ := Aside0.mk (below_step bel_ hb); have n2_ := Aside0.mk (hbox); have n3_ := Aside0.mk ((by rw [hg]; exact (below_size bel_) : w.heap.size ≤ gb183)); have n4_ := Aside0.mk ((by rw [hg]; exact (below_size bel_) : w.heap.size ≤ gb183)); have n5_ := Aside0.mk ((by rw [hg]; exact Nat.ne_of_lt (blk_lt (g := gb182) (o := .cells #[.bool true, .string a0_1, .slice A0_2 l0_2.length c0_2] 24 (0, 0)) (bk_ BK182)) : gb182 ≠ gb183)); have n6_ := Aside0.mk ((by rw [hg]; exact Nat.ne_of_gt (blk_lt (g := gb182) (o := .cells #[.bool true, .string a0_1, .slice A0_2 l0_2.length c0_2] 24 (0, 0)) (bk_ BK182)) : gb183 ≠ gb182)); clear BK182; clear HB; have BK182 := n0_; have HB := n1_; have BK183 := n2_; have GW183 := n3_; have GE183 := n4_; have NB182_183 := n5_; have NB183_182 := n6_; clear n0_ n1_ n2_ n3_ n4_ n5_ n6_; clear hb hbox hg; have hnb7 := NB182_183.out; have hnc7 := NB183_182.out; have hcz8_0 : w6.cell? ⟨gb182, 0, none⟩ = some (.bool true) := (blk_cell BK182.out 0).trans rfl; have hcz8_1 : w6.cell? ⟨gb182, 1, none⟩ = some (.string a0_1) := (blk_cell BK182.out 1).trans rfl; have hcz8_2 : w6.cell? ⟨gb182, 2, none⟩ = some (.slice A0_2 l0_2.length c0_2) := (blk_cell BK182.out 2).trans rfl; have hfz8_0 := blk_frozen BK182.out 0; have hfz8_1 := blk_frozen BK182.out 1; have hfz8_2 := blk_frozen BK182.out 2; have hcz9_0 : w6.cell? ⟨gb183, 0, none⟩ = some (.bool a1_0) := (blk_cell BK183.out 0).trans rfl; have hcz9_1 : w6.cell? ⟨gb183, 1, none⟩ = some (.string a1_1) := (blk_cell BK183.out 1).trans rfl; have hcz9_2 : w6.cell? ⟨gb183, 2, none⟩ = some (.slice A1_2 l1_2.length c1_2) := (blk_cell BK183.out 2).trans rfl; have hfz9_0 := blk_frozen BK183.out 0; have hfz9_1 := blk_frozen BK183.out 1; have hfz9_2 := blk_frozen BK183.out 2))
   go_ret
   exact ⟨by first | rfl | (simp [errW_none, errW_some] <;> rfl) | (simp [*, errW_none, errW_some] <;> rfl), bel_⟩
  ·replace c4 := Bool.eq_false_iff.mpr c4
   subst c4
   have H1 : (some 1) = some r := by rw [if_neg (show ¬ (false = true) by decide)] at H; exact H
   clear H
   have H := H1
   clear H1
   obtain rfl := Option.some.inj H
   go_enter Try.func106, Try.ntmps106
   go_wp2_with (first | ((with_reducible refine gate_dst (N := 2) rfl ?_); refine box_event ?hg (N := 2) ?hd (cs := #[.bool false, .string a0_1, .slice A0_2 l0_2.length c0_2]) (t := 24) ?hr ?_; (case hd => rfl); (case hg => rfl); (case hr => first | (go_simp; done) | (go_simp; rfl)); intro gb182 hg w10 hbox hb; have n0_ := Aside0.mk (below_step bel_ hb); have n1_ := Aside0.mk (hbox); have n2_ := Aside0.mk ((by rw [hg]; exact (below_size bel_) : w.heap.size ≤ gb182)); have n3_ := Aside0.mk ((by rw [hg]; exact (below_size bel_) : w.heap.size ≤ gb182)); clear HB; have HB := n0_; have BK182 := n1_; have GW182 := n2_; have GE182 := n3_; clear n0_ n1_ n2_ n3_; clear hb hbox hg) | ((with_reducible refine gate_dst (N := 3) rfl ?_); refine box_event ?hg (N := 3) ?hd (cs := #[.bool a1_0, .string a1_1, .slice A1_2 l1_2.length c1_2]) (t := 24) ?hr ?_; (case hd => rfl); (case hg => rfl); (case hr => first | (go_simp; done) | (go_simp; rfl)); intro gb183 hg w11 hbox hb; have n0_ := Aside0.mk (blk_below (g := gb182) (o := .cells #[.bool false, .string a0_1, .slice A0_2 l0_2.length c0_2] 24 (0, 0)) (bk_ BK182) hb); have n1_ := Aside0.mk (below_step bel_ hb); have n2_ := Aside0.mk (hbox); have n3_ := Aside0.mk ((by rw [hg]; exact (below_size bel_) : w.heap.size ≤ gb183)); have n4_ := Aside0.mk ((by rw [hg]; exact (below_size bel_) : w.heap.size ≤ gb183)); have n5_ := Aside0.mk ((by rw [hg]; exact Nat.ne_of_lt (blk_lt (g := gb182) (o := .cells #[.bool false, .string a0_1, .slice A0_2 l0_2.length c0_2] 24 (0, 0)) (bk_ BK182)) : gb182 ≠ gb183)); have n6_ := Aside0.mk ((by rw [hg]; exact Nat.ne_of_gt (blk_lt (g := gb182) (o := .cells #[.bool false, .string a0_1, .slice A0_2 l0_2.length c0_2] 24 (0, 0)) (bk_ BK182)) : gb183 ≠ gb182)); clear BK182; clear HB; have BK182 := n0_; have HB := n1_; have BK183 := n2_; have GW183 := n3_; have GE183 := n4_; have NB182_183 := n5_; have NB183_182 := n6_; clear n0_ n1_ n2_ n3_ n4_ n5_ n6_; clear hb hbox hg; have hnb12 := NB182_183.out; have hnc12 := NB183_182.out; have hcz13_0 : w11.cell? ⟨gb182, 0, none⟩ = some (.bool false) := (blk_cell BK182.out 0).trans rfl; have hcz13_1 : w11.cell? ⟨gb182, 1, none⟩ = some (.string a0_1) := (blk_cell BK182.out 1).trans rfl; have hcz13_2 : w11.cell? ⟨gb182, 2, none⟩ = some (.slice A0_2 l0_2.length c0_2) := (blk_cell BK182.out 2).trans rfl; have hfz13_0 := blk_frozen BK182.out 0; have hfz13_1 := blk_frozen BK182.out 1; have hfz13_2 := blk_frozen BK182.out 2; have hcz14_0 : w11.cell? ⟨gb183, 0, none⟩ = some (.bool a1_0) := (blk_cell BK183.out 0).trans rfl; have hcz14_1 : w11.cell? ⟨gb183, 1, none⟩ = some (.string a1_1) := (blk_cell BK183.out 1).trans rfl; have hcz14_2 : w11.cell? ⟨gb183, 2, none⟩ = some (.slice A1_2 l1_2.length c1_2) := (blk_cell BK183.out 2).trans rfl; have hfz14_0 := blk_frozen BK183.out 0; have hfz14_1 := blk_frozen BK183.out 1; have hfz14_2 := blk_frozen BK183.out 2))
   go_ret
   exact ⟨by first | rfl | (simp [errW_none, errW_some] <;> rfl) | (simp [*, errW_none, errW_some] <;> rfl), bel_⟩
 ·rw [if_neg c3] at H
  have c3b0 : (a0_0 != a1_0) = false := by simpa using c3
  (try (have c3b1 : decide (a0_0 = a1_0) = true := by simpa using c3))
  (try (have c3b2 : (a0_0 == a1_0) = true := by simpa using c3))
  clear c3
  by_cases c15 : a0_1.toList = a1_1.toList
  ·rw [if_pos c15] at H
   have c15b0 : (a0_1.toList == a1_1.toList) = true := beq_iff_eq.mpr c15
   have c15b1 : (a0_1.toList != a1_1.toList) = false := bne_eq_false_iff_eq.mpr c15
   clear c15
   by_cases c16 : (l0_2.length : Int) = (l1_2.length : Int)
   ·rw [if_pos c16] at H
    have c16b0 : ((l0_2.length : Int) == (l1_2.length : Int)) = true := beq_iff_eq.mpr c16
    have c16b1 : ((l0_2.length : Int) != (l1_2.length : Int)) = false := bne_eq_false_iff_eq.mpr c16
    have c16b2 : (l0_2.length == l1_2.length) = true := by first | simpa using c16 | (simp at c16 ⊢; omega)
    clear c16
    have H' := Aside0.mk H
    clear H
    go_enter Try.func106, Try.ntmps106
    go_wp2_with (first | ((with_reducible refine gate_dst (N := 2) rfl ?_); refine box_event ?hg (N := 2) ?hd (cs := #[.bool a0_0, .string a0_1, .slice A0_2 l0_2.length c0_2]) (t := 24) ?hr ?_; (case hd => rfl); (case hg => rfl); (case hr => first | (go_simp; done) | (go_simp; rfl)); intro gb182 hg w17 hbox hb; have n0_ := Aside0.mk (below_step bel_ hb); have n1_ := Aside0.mk (hbox); have n2_ := Aside0.mk ((by rw [hg]; exact (below_size bel_) : w.heap.size ≤ gb182)); have n3_ := Aside0.mk ((by rw [hg]; exact (below_size bel_) : w.heap.size ≤ gb182)); clear HB; have HB := n0_; have BK182 := n1_; have GW182 := n2_; have GE182 := n3_; clear n0_ n1_ n2_ n3_; clear hb hbox hg) | ((with_reducible refine gate_dst (N := 3) rfl ?_); refine box_event ?hg (N := 3) ?hd (cs := #[.bool a1_0, .string a1_1, .slice A1_2 l1_2.length c1_2]) (t := 24) ?hr ?_; (case hd => rfl); (case hg => rfl); (case hr => first | (go_simp; done) | (go_simp; rfl)); intro gb183 hg w18 hbox hb; have n0_ := Aside0.mk (blk_below (g := gb182) (o := .cells #[.bool a0_0, .string a0_1, .slice A0_2 l0_2.length c0_2] 24 (0, 0)) (bk_ BK182) hb); have n1_ := Aside0.mk (below_step bel_ hb); have n2_ := Aside0.mk (hbox); have n3_ := Aside0.mk ((by rw [hg]; exact (below_size bel_) : w.heap.size ≤ gb183)); have n4_ := Aside0.mk ((by rw [hg]; exact (below_size bel_) : w.heap.size ≤ gb183)); have n5_ := Aside0.mk ((by rw [hg]; exact Nat.ne_of_lt (blk_lt (g := gb182) (o := .cells #[.bool a0_0, .string a0_1, .slice A0_2 l0_2.length c0_2] 24 (0, 0)) (bk_ BK182)) : gb182 ≠ gb183)); have n6_ := Aside0.mk ((by rw [hg]; exact Nat.ne_of_gt (blk_lt (g := gb182) (o := .cells #[.bool a0_0, .string a0_1, .slice A0_2 l0_2.length c0_2] 24 (0, 0)) (bk_ BK182)) : gb183 ≠ gb182)); clear BK182; clear HB; have BK182 := n0_; have HB := n1_; have BK183 := n2_; have GW183 := n3_; have GE183 := n4_; have NB182_183 := n5_; have NB183_182 := n6_; clear n0_ n1_ n2_ n3_ n4_ n5_ n6_; clear hb hbox hg; have hnb19 := NB182_183.out; have hnc19 := NB183_182.out; have hcz20_0 : w18.cell? ⟨gb182, 0, none⟩ = some (.bool a0_0) := (blk_cell BK182.out 0).trans rfl; have hcz20_1 : w18.cell? ⟨gb182, 1, none⟩ = some (.string a0_1) := (blk_cell BK182.out 1).trans rfl; have hcz20_2 : w18.cell? ⟨gb182, 2, none⟩ = some (.slice A0_2 l0_2.length c0_2) := (blk_cell BK182.out 2).trans rfl; have hfz20_0 := blk_frozen BK182.out 0; have hfz20_1 := blk_frozen BK182.out 1; have hfz20_2 := blk_frozen BK182.out 2; have hcz21_0 : w18.cell? ⟨gb183, 0, none⟩ = some (.bool a1_0) := (blk_cell BK183.out 0).trans rfl; have hcz21_1 : w18.cell? ⟨gb183, 1, none⟩ = some (.string a1_1) := (blk_cell BK183.out 1).trans rfl; have hcz21_2 : w18.cell? ⟨gb183, 2, none⟩ = some (.slice A1_2 l1_2.length c1_2) := (blk_cell BK183.out 2).trans rfl; have hfz21_0 := blk_frozen BK183.out 0; have hfz21_1 := blk_frozen BK183.out 1; have hfz21_2 := blk_frozen BK183.out 2))
    go_loopg [5] k (fun kq v5 w' => ∃ (x5_1 : Int), v5 = .int .i64 x5_1 ∧ Aside0 (sequentref01_Compare.l0 kq x5_1 a0_0 a0_1 l0_2 a1_0 a1_1 l1_2 = some r) ∧ Aside0 (kq ≤ k) ∧ Aside0 (w'.heap[gb182]? = some (.cells #[.bool a0_0, .string a0_1, (.slice A0_2 l0_2.length c0_2)] 24 (0, 0))) ∧ Aside0 (w'.heap[gb183]? = some (.cells #[.bool a1_0, .string a1_1, (.slice A1_2 l1_2.length c1_2)] 24 (0, 0))) ∧ Aside0 (Below w.heap.size w w'))
    case atStart => exact ⟨(0), (by first | rfl | (simp; done) | (simp [*]; done)), H', ⟨Nat.le_refl _⟩, ⟨bk_ BK182⟩, ⟨bk_ BK183⟩, ⟨bel_⟩⟩
    case round =>
     clear H'
     try clear c1
     try clear p2
     try clear c3
     try clear c3b0
     try clear c3b1
     try clear c3b2
     try clear c4
     try clear c7
     try clear c10
     try clear c12
     try clear c15
     try clear c15b0
     try clear c15b1
     try clear c16
     try clear c16b0
     try clear c16b1
     try clear c16b2
     try clear c19
     try clear hcz13_0
     try clear hcz13_1
     try clear hcz13_2
     try clear hcz14_0
     try clear hcz14_1
     try clear hcz14_2
     try clear hcz20_0
     try clear hcz20_1
     try clear hcz20_2
     try clear hcz21_0
     try clear hcz21_1
     try clear hcz21_2
     try clear hcz8_0
     try clear hcz8_1
     try clear hcz8_2
     try clear hcz9_0
     try clear hcz9_1
     try clear hcz9_2
     try clear hfz13_0
     try clear hfz13_1
     try clear hfz13_2
     try clear hfz14_0
     try clear hfz14_1
     try clear hfz14_2
     try clear hfz20_0
     try clear hfz20_1
     try clear hfz20_2
     try clear hfz21_0
     try clear hfz21_1
     try clear hfz21_2
     try clear hfz8_0
     try clear hfz8_1
     try clear hfz8_2
     try clear hfz9_0
     try clear hfz9_1
     try clear hfz9_2
     obtain ⟨x5_1, rfl, HA, HK1, BK182, BK183, HB⟩ := hrel
     cases gk with
     | zero => exact absurd HA.out (by simp [sequentref01_Compare.l0])
     | succ k1 =>
      have H := HA.out
      clear HA
      simp only [sequentref01_Compare.l0] at H
      by_cases c22 : x5_1 < (l0_2.length : Int)
      ·rw [if_pos c22] at H
       have c22b0 : decide (x5_1 < (l0_2.length : Int)) = true := decide_eq_true c22
       clear c22
       by_cases c23 : 0 ≤ x5_1
       ·rw [if_pos c23] at H
        have c23b0 : decide (0 ≤ x5_1) = true := decide_eq_true c23
        clear c23
        by_cases c24 : x5_1 < (l1_2.length : Int)
        ·rw [if_pos c24] at H
         have c24b0 : decide (x5_1 < (l1_2.length : Int)) = true := decide_eq_true c24
         clear c24
         replace H := Option.bind_eq_some_iff.mp H
         obtain ⟨t186, A250, H⟩ := H
         replace H : (if t186 = 0 then (sequentref01_Compare.l0 k1 (wrap64 (x5_1 + 1)) a0_0 a0_1 l0_2 a1_0 a1_1 l1_2) else (some t186)) = some r := H
         have A25 := Aside0.mk A250
         clear A250
         by_cases c26 : t186 = 0
         ·rw [if_pos c26] at H
          have c26b0 : (t186 == 0) = true := beq_iff_eq.mpr c26
          have c26b1 : (t186 != 0) = false := bne_eq_false_iff_eq.mpr c26
          clear c26
          have H' := Aside0.mk H
          clear H
          have hnb27 := NB182_183.out
          have hnc27 := NB183_182.out
          have hcz28_0 : wr.cell? ⟨gb182, 0, none⟩ = some (.bool a0_0) := (blk_cell BK182.out 0).trans rfl
          have hcz28_1 : wr.cell? ⟨gb182, 1, none⟩ = some (.string a0_1) := (blk_cell BK182.out 1).trans rfl
          have hcz28_2 : wr.cell? ⟨gb182, 2, none⟩ = some (.slice A0_2 l0_2.length c0_2) := (blk_cell BK182.out 2).trans rfl
          have hfz28_0 := blk_frozen BK182.out 0
          have hfz28_1 := blk_frozen BK182.out 1
          have hfz28_2 := blk_frozen BK182.out 2
          try go_wp2
          have n0_ := Aside0.mk (blk_drew BK182.out)
          have n1_ := Aside0.mk (blk_drew BK183.out)
          have n2_ := Aside0.mk (below_drew1 HB.out)
          clear BK182
          clear BK183
          clear HB
          have BK182 := n0_
          have BK183 := n1_
          have HB := n2_
          clear n0_ n1_ n2_
          have p184 : 0 ≤ (x5_1 : Int) := dq_
          have q184 : x5_1 < (l0_2.length : Int) := dq_
          obtain ⟨ad184, A184_2, c184_2, e184, hx184_0, hx184_1, hx184_2, hl184_2, hi184_2⟩ := at_T24 HR0_2.out x5_1 p184 q184
          have hw184_2 := hx184_2
          have hw184_1 := hx184_1
          have hw184_0 := hx184_0
          cases e184
          replace hx184_0 := pw_cell_below HB.out hx184_0
          replace hx184_1 := pw_cell_below HB.out hx184_1
          replace hx184_2 := pw_cell_below HB.out hx184_2
          have HR184_2 := Aside0.mk hi184_2
          have HC184_2 := Aside0.mk hl184_2
          clear hi184_2 hl184_2
          replace p184 := eq_true p184
          replace q184 := eq_true q184
          have p185 : 0 ≤ (x5_1 : Int) := dq_
          have q185 : x5_1 < (l1_2.length : Int) := dq_
          obtain ⟨ad185, A185_2, c185_2, e185, hx185_0, hx185_1, hx185_2, hl185_2, hi185_2⟩ := at_T24 HR1_2.out x5_1 p185 q185
          have hw185_2 := hx185_2
          have hw185_1 := hx185_1
          have hw185_0 := hx185_0
          cases e185
          replace hx185_0 := pw_cell_below HB.out hx185_0
          replace hx185_1 := pw_cell_below HB.out hx185_1
          replace hx185_2 := pw_cell_below HB.out hx185_2
          have HR185_2 := Aside0.mk hi185_2
          have HC185_2 := Aside0.mk hl185_2
          clear hi185_2 hl185_2
          replace p185 := eq_true p185
          replace q185 := eq_true q185
          refine start_ (n := 12) (S := fun w' => w'.cell? ⟨gb182, 0, none⟩ = some (.bool a0_0) ∧ w'.cell? ⟨gb182, 1, none⟩ = some (.string a0_1) ∧ w'.cell? ⟨gb182, 2, none⟩ = some (.slice (some ad184) l0_2.length c0_2) ∧ w'.cell? ⟨gb183, 0, none⟩ = some (.bool a1_0) ∧ w'.cell? ⟨gb183, 1, none⟩ = some (.string a1_1) ∧ w'.cell? ⟨gb183, 2, none⟩ = some (.slice (some ad185) l1_2.length c1_2) ∧ w'.cell? (ad184.add ((x5_1).toNat * 3)) = some (.bool ((rd_T24 l0_2 x5_1).f0)) ∧ w'.cell? ⟨(ad184.add ((x5_1).toNat * 3)).block, (ad184.add ((x5_1).toNat * 3)).off + 1, none⟩ = some (.string ((rd_T24 l0_2 x5_1).f1)) ∧ w'.cell? ⟨(ad184.add ((x5_1).toNat * 3)).block, (ad184.add ((x5_1).toNat * 3)).off + 2, none⟩ = some (.slice A184_2 ((rd_T24 l0_2 x5_1).f2).length c184_2) ∧ w'.cell? (ad185.add ((x5_1).toNat * 3)) = some (.bool ((rd_T24 l1_2 x5_1).f0)) ∧ w'.cell? ⟨(ad185.add ((x5_1).toNat * 3)).block, (ad185.add ((x5_1).toNat * 3)).off + 1, none⟩ = some (.string ((rd_T24 l1_2 x5_1).f1)) ∧ w'.cell? ⟨(ad185.add ((x5_1).toNat * 3)).block, (ad185.add ((x5_1).toNat * 3)).off + 2, none⟩ = some (.slice A185_2 ((rd_T24 l1_2 x5_1).f2).length c185_2)) (ds := []) #[false, false, false, false, false, false, false, false, false, false, false, false] (by kernel_rfl) rfl rfl ⟨(blk_cell BK182.out 0).trans rfl, (blk_cell BK182.out 1).trans rfl, (blk_cell BK182.out 2).trans rfl, (blk_cell BK183.out 0).trans rfl, (blk_cell BK183.out 1).trans rfl, (blk_cell BK183.out 2).trans rfl, (pw_cell_below HB.out hw184_0), (pw_cell_below HB.out hw184_1), (pw_cell_below HB.out hw184_2), (pw_cell_below HB.out hw185_0), (pw_cell_below HB.out hw185_1), (pw_cell_below HB.out hw185_2)⟩ (fun hHeld => ?_); refine with_tabW sequentref01_Compare.tab16 sequentref01_Compare.bits16 (fun HT_ HW_ => ?_)
          generalize wr.drew = w29 at BK182 BK183 HB HR184_2 HR185_2 hx184_0 hx184_1 hx184_2 hx185_0 hx185_1 hx185_2 hHeld ⊢
          refine pure_ (i := 0) (N := some 45) (v := ?_) (a' := ?_) #[true, false, false, false, false, false, false, false, false, false, false, false] rfl rfl (any_of HT_.out (by kernel_rfl)) (fun _ _ _ h => h) (Or.inl ⟨by rfl, ?_⟩) ?_ ?_
          rotate_left
          ·intro w'
           go_simp
           with_reducible rfl
          rotate_left
          ·simp only [Act.put, List.setIfInBounds_toArray, List.set_cons_zero, List.set_cons_succ, i64_w, i32_w]
           rfl
          refine pure_ (i := 2) (N := some 47) (v := ?_) (a' := ?_) #[true, false, true, false, false, false, false, false, false, false, false, false] rfl rfl (any_of HT_.out (by kernel_rfl)) (fun _ _ _ h => h) (Or.inl ⟨by rfl, ?_⟩) ?_ ?_
          rotate_left
          ·intro w'
           go_simp
           with_reducible rfl
          rotate_left
          ·simp only [Act.put, List.setIfInBounds_toArray, List.set_cons_zero, List.set_cons_succ, i64_w, i32_w]
           rfl
          refine pure_ (i := 5) (N := some 50) (v := ?_) (a' := ?_) #[true, false, true, false, false, true, false, false, false, false, false, false] rfl rfl (any_of HT_.out (by kernel_rfl)) (fun _ _ _ h => h) (Or.inl ⟨by rfl, ?_⟩) ?_ ?_
          rotate_left
          ·intro w'
           go_simp
           with_reducible rfl
          rotate_left
          ·simp only [Act.put, List.setIfInBounds_toArray, List.set_cons_zero, List.set_cons_succ, i64_w, i32_w]
           rfl
          refine pure_ (i := 7) (N := some 52) (v := ?_) (a' := ?_) #[true, false, true, false, false, true, false, true, false, false, false, false] rfl rfl (any_of HT_.out (by kernel_rfl)) (fun _ _ _ h => h) (Or.inl ⟨by rfl, ?_⟩) ?_ ?_
          rotate_left
          ·intro w'
           go_simp
           with_reducible rfl
          rotate_left
          ·simp only [Act.put, List.setIfInBounds_toArray, List.set_cons_zero, List.set_cons_succ, i64_w, i32_w]
           rfl
          refine take_ (i := 1) (N := some 46) (v := ?_) (a' := ?_) #[true, true, true, false, false, true, false, true, false, false, false, false] rfl rfl (take_ofW HT_.out HW_.out (by kernel_rfl)) (fun _ _ _ h => h) (Or.inl ⟨by rfl, ?_⟩) hHeld ?_ ?_
          rotate_left
          ·rintro w' ⟨s0, s1, s2, s3, s4, s5, s6, s7, s8, s9, s10, s11⟩
           go_simp
           with_reducible rfl
          rotate_left
          ·simp only [Act.put, List.setIfInBounds_toArray, List.set_cons_zero, List.set_cons_succ, i64_w, i32_w]
           rfl
          refine pure_ (i := 3) (N := some 48) (v := ?_) (a' := ?_) #[true, true, true, true, false, true, false, true, false, false, false, false] rfl rfl (any_of HT_.out (by kernel_rfl)) (fun _ _ _ h => h) (Or.inl ⟨by rfl, ?_⟩) ?_ ?_
          rotate_left
          ·intro w'
           go_simp
           with_reducible rfl
          rotate_left
          ·simp only [Act.put, List.setIfInBounds_toArray, List.set_cons_zero, List.set_cons_succ, i64_w, i32_w]
           rfl
          refine take_ (i := 4) (N := some 49) (v := ?_) (a' := ?_) #[true, true, true, true, true, true, false, true, false, false, false, false] rfl rfl (take_ofW HT_.out HW_.out (by kernel_rfl)) (fun _ _ _ h => h) (Or.inl ⟨by rfl, ?_⟩) hHeld ?_ ?_
          rotate_left
          ·rintro w' ⟨s0, s1, s2, s3, s4, s5, s6, s7, s8, s9, s10, s11⟩
           go_simp
           with_reducible rfl
          rotate_left
          ·simp only [Act.put, List.setIfInBounds_toArray, List.set_cons_zero, List.set_cons_succ, i64_w, i32_w]
           rfl
          refine take_ (i := 6) (N := some 51) (v := ?_) (a' := ?_) #[true, true, true, true, true, true, true, true, false, false, false, false] rfl rfl (take_ofW HT_.out HW_.out (by kernel_rfl)) (fun _ _ _ h => h) (Or.inl ⟨by rfl, ?_⟩) hHeld ?_ ?_
          rotate_left
          ·rintro w' ⟨s0, s1, s2, s3, s4, s5, s6, s7, s8, s9, s10, s11⟩
           go_simp
           with_reducible rfl
          rotate_left
          ·simp only [Act.put, List.setIfInBounds_toArray, List.set_cons_zero, List.set_cons_succ, i64_w, i32_w]
           rfl
          refine pure_ (i := 8) (N := some 53) (v := ?_) (a' := ?_) #[true, true, true, true, true, true, true, true, true, false, false, false] rfl rfl (any_of HT_.out (by kernel_rfl)) (fun _ _ _ h => h) (Or.inl ⟨by rfl, ?_⟩) ?_ ?_
          rotate_left
          ·intro w'
           go_simp
           with_reducible rfl
          rotate_left
          ·simp only [Act.put, List.setIfInBounds_toArray, List.set_cons_zero, List.set_cons_succ, i64_w, i32_w]
           rfl
          refine take_ (i := 9) (N := some 54) (v := ?_) (a' := ?_) #[true, true, true, true, true, true, true, true, true, true, false, false] rfl rfl (take_ofW HT_.out HW_.out (by kernel_rfl)) (fun _ _ _ h => h) (Or.inl ⟨by rfl, ?_⟩) hHeld ?_ ?_
          rotate_left
          ·rintro w' ⟨s0, s1, s2, s3, s4, s5, s6, s7, s8, s9, s10, s11⟩
           go_simp
           with_reducible rfl
          rotate_left
          ·simp only [Act.put, List.setIfInBounds_toArray, List.set_cons_zero, List.set_cons_succ, i64_w, i32_w]
           rfl
          refine one_ (i := 10) (N := some 55) #[true, true, true, true, true, true, true, true, true, true, true, false] rfl rfl (one_of HT_.out (by kernel_rfl)) (by decide) (fun K hK => ?_)
          refine goes_ Try.func106 (by kernel_rfl) rfl #[.agg #[.bool ((rd_T24 l0_2 x5_1).f0), .string ((rd_T24 l0_2 x5_1).f1), .slice A184_2 ((rd_T24 l0_2 x5_1).f2).length c184_2], .agg #[.bool ((rd_T24 l1_2 x5_1).f0), .string ((rd_T24 l1_2 x5_1).f1), .slice A185_2 ((rd_T24 l1_2 x5_1).f2).length c185_2]] (by rfl) rfl rfl (by (try simp only [List.map_toArray, List.map_cons, List.map_nil]); first | done | rfl | (simp only [List.length_drop, List.length_take]; rfl)) ?_
          with_reducible refine (ih k1 (by have := HK1.out; omega) ((rd_T24 l0_2 x5_1).f0) ((rd_T24 l0_2 x5_1).f1) _ _ ((rd_T24 l0_2 x5_1).f2) ((rd_T24 l1_2 x5_1).f0) ((rd_T24 l1_2 x5_1).f1) _ _ ((rd_T24 l1_2 x5_1).f2) t186 _ ?side1 ?side2 ?side3 ?side4 A25.out).mono ?_
          (case side1 => repeat (first | exact (Kd.C_below HR184_2.out HB.out) | (with_reducible refine Kd.C_alloc ?_ _) | (with_reducible refine Kd.C_drewN ?_ _) | (with_reducible refine Kd.C_drew ?_)))
          (case side2 => exact HC184_2.out)
          (case side3 => repeat (first | exact (Kd.C_below HR185_2.out HB.out) | (with_reducible refine Kd.C_alloc ?_ _) | (with_reducible refine Kd.C_drewN ?_ _) | (with_reducible refine Kd.C_drew ?_)))
          (case side4 => exact HC185_2.out)
          rintro e w30 ⟨rfl, hb⟩
          refine ⟨_, rfl, ?_⟩
          have n0_ := Aside0.mk (blk_below (g := gb182) (o := .cells #[.bool a0_0, .string a0_1, .slice (some ad184) l0_2.length c0_2] 24 (0, 0)) (bk_ BK182) hb)
          have n1_ := Aside0.mk (blk_below (g := gb183) (o := .cells #[.bool a1_0, .string a1_1, .slice (some ad185) l1_2.length c1_2] 24 (0, 0)) (bk_ BK183) hb)
          have n2_ := Aside0.mk (below_step bel_ hb)
          clear BK182
          clear BK183
          clear HB
          have BK182 := n0_
          have BK183 := n1_
          have HB := n2_
          clear n0_ n1_ n2_
          (try clear hb)
          (try clear hb2)
          (try clear hk)
          (try clear hi)
          refine hK.out _ _ ⟨(blk_cell BK182.out 0).trans rfl, (blk_cell BK182.out 1).trans rfl, (blk_cell BK182.out 2).trans rfl, (blk_cell BK183.out 0).trans rfl, (blk_cell BK183.out 1).trans rfl, (blk_cell BK183.out 2).trans rfl, (pw_cell_below HB.out hw184_0), (pw_cell_below HB.out hw184_1), (pw_cell_below HB.out hw184_2), (pw_cell_below HB.out hw185_0), (pw_cell_below HB.out hw185_1), (pw_cell_below HB.out hw185_2)⟩ (fun hHeld => ?_)
          clear hK K
          refine norm_ (a' := ?_) ?_ ?_
          rotate_left
          ·show Act.put _ (some 55) _ = _
           simp only [Act.put, List.setIfInBounds_toArray, List.set_cons_zero, List.set_cons_succ, i64_w, i32_w]
           rfl
          refine pure_ (i := 11) (N := some 6) (v := ?_) (a' := ?_) #[true, true, true, true, true, true, true, true, true, true, true, true] rfl rfl (any_of HT_.out (by kernel_rfl)) (fun _ _ _ h => h) (Or.inl ⟨by rfl, ?_⟩) ?_ ?_
          rotate_left
          ·intro w'
           go_simp
           with_reducible rfl
          rotate_left
          ·simp only [Act.put, List.setIfInBounds_toArray, List.set_cons_zero, List.set_cons_succ, i64_w, i32_w]
           rfl
          refine done_ (done_of HT_.out (by kernel_rfl)) ?_
          try go_wp2
          go_roundg k1
          case measure => have := HK1.out; omega
          case rel => exact ⟨(wrap64 (x5_1 + 1)), (by first | rfl | (simp; done) | (simp [*]; done)), H', ⟨by have := HK1.out; omega⟩, ⟨bk_ BK182⟩, ⟨bk_ BK183⟩, ⟨bel_⟩⟩
         ·rw [if_neg c26] at H
          have c26b0 : (t186 == 0) = false := beq_eq_false_iff_ne.mpr c26
          have c26b1 : (t186 != 0) = true := bne_iff_ne.mpr c26
          obtain rfl := Option.some.inj H
          have hnb31 := NB182_183.out
          have hnc31 := NB183_182.out
          have hcz32_0 : wr.cell? ⟨gb182, 0, none⟩ = some (.bool a0_0) := (blk_cell BK182.out 0).trans rfl
          have hcz32_1 : wr.cell? ⟨gb182, 1, none⟩ = some (.string a0_1) := (blk_cell BK182.out 1).trans rfl
          have hcz32_2 : wr.cell? ⟨gb182, 2, none⟩ = some (.slice A0_2 l0_2.length c0_2) := (blk_cell BK182.out 2).trans rfl
          have hfz32_0 := blk_frozen BK182.out 0
          have hfz32_1 := blk_frozen BK182.out 1
          have hfz32_2 := blk_frozen BK182.out 2
          try go_wp2
          have n0_ := Aside0.mk (blk_drew BK182.out)
          have n1_ := Aside0.mk (blk_drew BK183.out)
          have n2_ := Aside0.mk (below_drew1 HB.out)
          clear BK182
          clear BK183
          clear HB
          have BK182 := n0_
          have BK183 := n1_
          have HB := n2_
          clear n0_ n1_ n2_
          have p184 : 0 ≤ (x5_1 : Int) := dq_
          have q184 : x5_1 < (l0_2.length : Int) := dq_
          obtain ⟨ad184, A184_2, c184_2, e184, hx184_0, hx184_1, hx184_2, hl184_2, hi184_2⟩ := at_T24 HR0_2.out x5_1 p184 q184
          have hw184_2 := hx184_2
          have hw184_1 := hx184_1
          have hw184_0 := hx184_0
          cases e184
          replace hx184_0 := pw_cell_below HB.out hx184_0
          replace hx184_1 := pw_cell_below HB.out hx184_1
          replace hx184_2 := pw_cell_below HB.out hx184_2
          have HR184_2 := Aside0.mk hi184_2
          have HC184_2 := Aside0.mk hl184_2
          clear hi184_2 hl184_2
          replace p184 := eq_true p184
          replace q184 := eq_true q184
          have p185 : 0 ≤ (x5_1 : Int) := dq_
          have q185 : x5_1 < (l1_2.length : Int) := dq_
          obtain ⟨ad185, A185_2, c185_2, e185, hx185_0, hx185_1, hx185_2, hl185_2, hi185_2⟩ := at_T24 HR1_2.out x5_1 p185 q185
          have hw185_2 := hx185_2
          have hw185_1 := hx185_1
          have hw185_0 := hx185_0
          cases e185
          replace hx185_0 := pw_cell_below HB.out hx185_0
          replace hx185_1 := pw_cell_below HB.out hx185_1
          replace hx185_2 := pw_cell_below HB.out hx185_2
          have HR185_2 := Aside0.mk hi185_2
          have HC185_2 := Aside0.mk hl185_2
          clear hi185_2 hl185_2
          replace p185 := eq_true p185
          replace q185 := eq_true q185
          refine start_ (n := 12) (S := fun w' => w'.cell? ⟨gb182, 0, none⟩ = some (.bool a0_0) ∧ w'.cell? ⟨gb182, 1, none⟩ = some (.string a0_1) ∧ w'.cell? ⟨gb182, 2, none⟩ = some (.slice (some ad184) l0_2.length c0_2) ∧ w'.cell? ⟨gb183, 0, none⟩ = some (.bool a1_0) ∧ w'.cell? ⟨gb183, 1, none⟩ = some (.string a1_1) ∧ w'.cell? ⟨gb183, 2, none⟩ = some (.slice (some ad185) l1_2.length c1_2) ∧ w'.cell? (ad184.add ((x5_1).toNat * 3)) = some (.bool ((rd_T24 l0_2 x5_1).f0)) ∧ w'.cell? ⟨(ad184.add ((x5_1).toNat * 3)).block, (ad184.add ((x5_1).toNat * 3)).off + 1, none⟩ = some (.string ((rd_T24 l0_2 x5_1).f1)) ∧ w'.cell? ⟨(ad184.add ((x5_1).toNat * 3)).block, (ad184.add ((x5_1).toNat * 3)).off + 2, none⟩ = some (.slice A184_2 ((rd_T24 l0_2 x5_1).f2).length c184_2) ∧ w'.cell? (ad185.add ((x5_1).toNat * 3)) = some (.bool ((rd_T24 l1_2 x5_1).f0)) ∧ w'.cell? ⟨(ad185.add ((x5_1).toNat * 3)).block, (ad185.add ((x5_1).toNat * 3)).off + 1, none⟩ = some (.string ((rd_T24 l1_2 x5_1).f1)) ∧ w'.cell? ⟨(ad185.add ((x5_1).toNat * 3)).block, (ad185.add ((x5_1).toNat * 3)).off + 2, none⟩ = some (.slice A185_2 ((rd_T24 l1_2 x5_1).f2).length c185_2)) (ds := []) #[false, false, false, false, false, false, false, false, false, false, false, false] (by kernel_rfl) rfl rfl ⟨(blk_cell BK182.out 0).trans rfl, (blk_cell BK182.out 1).trans rfl, (blk_cell BK182.out 2).trans rfl, (blk_cell BK183.out 0).trans rfl, (blk_cell BK183.out 1).trans rfl, (blk_cell BK183.out 2).trans rfl, (pw_cell_below HB.out hw184_0), (pw_cell_below HB.out hw184_1), (pw_cell_below HB.out hw184_2), (pw_cell_below HB.out hw185_0), (pw_cell_below HB.out hw185_1), (pw_cell_below HB.out hw185_2)⟩ (fun hHeld => ?_); refine with_tabW sequentref01_Compare.tab16 sequentref01_Compare.bits16 (fun HT_ HW_ => ?_)
          generalize wr.drew = w33 at BK182 BK183 HB HR184_2 HR185_2 hx184_0 hx184_1 hx184_2 hx185_0 hx185_1 hx185_2 hHeld ⊢
          refine pure_ (i := 0) (N := some 45) (v := ?_) (a' := ?_) #[true, false, false, false, false, false, false, false, false, false, false, false] rfl rfl (any_of HT_.out (by kernel_rfl)) (fun _ _ _ h => h) (Or.inl ⟨by rfl, ?_⟩) ?_ ?_
          rotate_left
          ·intro w'
           go_simp
           with_reducible rfl
          rotate_left
          ·simp only [Act.put, List.setIfInBounds_toArray, List.set_cons_zero, List.set_cons_succ, i64_w, i32_w]
           rfl
          refine pure_ (i := 2) (N := some 47) (v := ?_) (a' := ?_) #[true, false, true, false, false, false, false, false, false, false, false, false] rfl rfl (any_of HT_.out (by kernel_rfl)) (fun _ _ _ h => h) (Or.inl ⟨by rfl, ?_⟩) ?_ ?_
          rotate_left
          ·intro w'
           go_simp
           with_reducible rfl
          rotate_left
          ·simp only [Act.put, List.setIfInBounds_toArray, List.set_cons_zero, List.set_cons_succ, i64_w, i32_w]
           rfl
          refine pure_ (i := 5) (N := some 50) (v := ?_) (a' := ?_) #[true, false, true, false, false, true, false, false, false, false, false, false] rfl rfl (any_of HT_.out (by kernel_rfl)) (fun _ _ _ h => h) (Or.inl ⟨by rfl, ?_⟩) ?_ ?_
          rotate_left
          ·intro w'
           go_simp
           with_reducible rfl
          rotate_left
          ·simp only [Act.put, List.setIfInBounds_toArray, List.set_cons_zero, List.set_cons_succ, i64_w, i32_w]
           rfl
          refine pure_ (i := 7) (N := some 52) (v := ?_) (a' := ?_) #[true, false, true, false, false, true, false, true, false, false, false, false] rfl rfl (any_of HT_.out (by kernel_rfl)) (fun _ _ _ h => h) (Or.inl ⟨by rfl, ?_⟩) ?_ ?_
          rotate_left
          ·intro w'
           go_simp
           with_reducible rfl
          rotate_left
          ·simp only [Act.put, List.setIfInBounds_toArray, List.set_cons_zero, List.set_cons_succ, i64_w, i32_w]
           rfl
          refine take_ (i := 1) (N := some 46) (v := ?_) (a' := ?_) #[true, true, true, false, false, true, false, true, false, false, false, false] rfl rfl (take_ofW HT_.out HW_.out (by kernel_rfl)) (fun _ _ _ h => h) (Or.inl ⟨by rfl, ?_⟩) hHeld ?_ ?_
          rotate_left
          ·rintro w' ⟨s0, s1, s2, s3, s4, s5, s6, s7, s8, s9, s10, s11⟩
           go_simp
           with_reducible rfl
          rotate_left
          ·simp only [Act.put, List.setIfInBounds_toArray, List.set_cons_zero, List.set_cons_succ, i64_w, i32_w]
           rfl
          refine pure_ (i := 3) (N := some 48) (v := ?_) (a' := ?_) #[true, true, true, true, false, true, false, true, false, false, false, false] rfl rfl (any_of HT_.out (by kernel_rfl)) (fun _ _ _ h => h) (Or.inl ⟨by rfl, ?_⟩) ?_ ?_
          rotate_left
          ·intro w'
           go_simp
           with_reducible rfl
          rotate_left
          ·simp only [Act.put, List.setIfInBounds_toArray, List.set_cons_zero, List.set_cons_succ, i64_w, i32_w]
           rfl
          refine take_ (i := 4) (N := some 49) (v := ?_) (a' := ?_) #[true, true, true, true, true, true, false, true, false, false, false, false] rfl rfl (take_ofW HT_.out HW_.out (by kernel_rfl)) (fun _ _ _ h => h) (Or.inl ⟨by rfl, ?_⟩) hHeld ?_ ?_
          rotate_left
          ·rintro w' ⟨s0, s1, s2, s3, s4, s5, s6, s7, s8, s9, s10, s11⟩
           go_simp
           with_reducible rfl
          rotate_left
          ·simp only [Act.put, List.setIfInBounds_toArray, List.set_cons_zero, List.set_cons_succ, i64_w, i32_w]
           rfl
          refine take_ (i := 6) (N := some 51) (v := ?_) (a' := ?_) #[true, true, true, true, true, true, true, true, false, false, false, false] rfl rfl (take_ofW HT_.out HW_.out (by kernel_rfl)) (fun _ _ _ h => h) (Or.inl ⟨by rfl, ?_⟩) hHeld ?_ ?_
          rotate_left
          ·rintro w' ⟨s0, s1, s2, s3, s4, s5, s6, s7, s8, s9, s10, s11⟩
           go_simp
           with_reducible rfl
          rotate_left
          ·simp only [Act.put, List.setIfInBounds_toArray, List.set_cons_zero, List.set_cons_succ, i64_w, i32_w]
           rfl
          refine pure_ (i := 8) (N := some 53) (v := ?_) (a' := ?_) #[true, true, true, true, true, true, true, true, true, false, false, false] rfl rfl (any_of HT_.out (by kernel_rfl)) (fun _ _ _ h => h) (Or.inl ⟨by rfl, ?_⟩) ?_ ?_
          rotate_left
          ·intro w'
           go_simp
           with_reducible rfl
          rotate_left
          ·simp only [Act.put, List.setIfInBounds_toArray, List.set_cons_zero, List.set_cons_succ, i64_w, i32_w]
           rfl
          refine take_ (i := 9) (N := some 54) (v := ?_) (a' := ?_) #[true, true, true, true, true, true, true, true, true, true, false, false] rfl rfl (take_ofW HT_.out HW_.out (by kernel_rfl)) (fun _ _ _ h => h) (Or.inl ⟨by rfl, ?_⟩) hHeld ?_ ?_
          rotate_left
          ·rintro w' ⟨s0, s1, s2, s3, s4, s5, s6, s7, s8, s9, s10, s11⟩
           go_simp
           with_reducible rfl
          rotate_left
          ·simp only [Act.put, List.setIfInBounds_toArray, List.set_cons_zero, List.set_cons_succ, i64_w, i32_w]
           rfl
          refine one_ (i := 10) (N := some 55) #[true, true, true, true, true, true, true, true, true, true, true, false] rfl rfl (one_of HT_.out (by kernel_rfl)) (by decide) (fun K hK => ?_)
          refine goes_ Try.func106 (by kernel_rfl) rfl #[.agg #[.bool ((rd_T24 l0_2 x5_1).f0), .string ((rd_T24 l0_2 x5_1).f1), .slice A184_2 ((rd_T24 l0_2 x5_1).f2).length c184_2], .agg #[.bool ((rd_T24 l1_2 x5_1).f0), .string ((rd_T24 l1_2 x5_1).f1), .slice A185_2 ((rd_T24 l1_2 x5_1).f2).length c185_2]] (by rfl) rfl rfl (by (try simp only [List.map_toArray, List.map_cons, List.map_nil]); first | done | rfl | (simp only [List.length_drop, List.length_take]; rfl)) ?_
          with_reducible refine (ih k1 (by have := HK1.out; omega) ((rd_T24 l0_2 x5_1).f0) ((rd_T24 l0_2 x5_1).f1) _ _ ((rd_T24 l0_2 x5_1).f2) ((rd_T24 l1_2 x5_1).f0) ((rd_T24 l1_2 x5_1).f1) _ _ ((rd_T24 l1_2 x5_1).f2) t186 _ ?side1 ?side2 ?side3 ?side4 A25.out).mono ?_
          (case side1 => repeat (first | exact (Kd.C_below HR184_2.out HB.out) | (with_reducible refine Kd.C_alloc ?_ _) | (with_reducible refine Kd.C_drewN ?_ _) | (with_reducible refine Kd.C_drew ?_)))
          (case side2 => exact HC184_2.out)
          (case side3 => repeat (first | exact (Kd.C_below HR185_2.out HB.out) | (with_reducible refine Kd.C_alloc ?_ _) | (with_reducible refine Kd.C_drewN ?_ _) | (with_reducible refine Kd.C_drew ?_)))
          (case side4 => exact HC185_2.out)
          rintro e w34 ⟨rfl, hb⟩
          refine ⟨_, rfl, ?_⟩
          have n0_ := Aside0.mk (blk_below (g := gb182) (o := .cells #[.bool a0_0, .string a0_1, .slice (some ad184) l0_2.length c0_2] 24 (0, 0)) (bk_ BK182) hb)
          have n1_ := Aside0.mk (blk_below (g := gb183) (o := .cells #[.bool a1_0, .string a1_1, .slice (some ad185) l1_2.length c1_2] 24 (0, 0)) (bk_ BK183) hb)
          have n2_ := Aside0.mk (below_step bel_ hb)
          clear BK182
          clear BK183
          clear HB
          have BK182 := n0_
          have BK183 := n1_
          have HB := n2_
          clear n0_ n1_ n2_
          (try clear hb)
          (try clear hb2)
          (try clear hk)
          (try clear hi)
          refine hK.out _ _ ⟨(blk_cell BK182.out 0).trans rfl, (blk_cell BK182.out 1).trans rfl, (blk_cell BK182.out 2).trans rfl, (blk_cell BK183.out 0).trans rfl, (blk_cell BK183.out 1).trans rfl, (blk_cell BK183.out 2).trans rfl, (pw_cell_below HB.out hw184_0), (pw_cell_below HB.out hw184_1), (pw_cell_below HB.out hw184_2), (pw_cell_below HB.out hw185_0), (pw_cell_below HB.out hw185_1), (pw_cell_below HB.out hw185_2)⟩ (fun hHeld => ?_)
          clear hK K
          refine norm_ (a' := ?_) ?_ ?_
          rotate_left
          ·show Act.put _ (some 55) _ = _
           simp only [Act.put, List.setIfInBounds_toArray, List.set_cons_zero, List.set_cons_succ, i64_w, i32_w]
           rfl
          refine pure_ (i := 11) (N := some 6) (v := ?_) (a' := ?_) #[true, true, true, true, true, true, true, true, true, true, true, true] rfl rfl (any_of HT_.out (by kernel_rfl)) (fun _ _ _ h => h) (Or.inl ⟨by rfl, ?_⟩) ?_ ?_
          rotate_left
          ·intro w'
           go_simp
           with_reducible rfl
          rotate_left
          ·simp only [Act.put, List.setIfInBounds_toArray, List.set_cons_zero, List.set_cons_succ, i64_w, i32_w]
           rfl
          refine done_ (done_of HT_.out (by kernel_rfl)) ?_
          try go_wp2
          go_ret
          exact ⟨by first | rfl | (simp [errW_none, errW_some] <;> rfl) | (simp [*, errW_none, errW_some] <;> rfl), bel_⟩
        ·rw [if_neg c24] at H
         exact absurd H (by simp)
       ·rw [if_neg c23] at H
        exact absurd H (by simp)
      ·rw [if_neg c22] at H
       have c22b0 : decide (x5_1 < (l0_2.length : Int)) = false := decide_eq_false c22
       clear c22
       obtain rfl := Option.some.inj H
       have hnb35 := NB182_183.out
       have hnc35 := NB183_182.out
       have hcz36_0 : wr.cell? ⟨gb182, 0, none⟩ = some (.bool a0_0) := (blk_cell BK182.out 0).trans rfl
       have hcz36_1 : wr.cell? ⟨gb182, 1, none⟩ = some (.string a0_1) := (blk_cell BK182.out 1).trans rfl
       have hcz36_2 : wr.cell? ⟨gb182, 2, none⟩ = some (.slice A0_2 l0_2.length c0_2) := (blk_cell BK182.out 2).trans rfl
       have hfz36_0 := blk_frozen BK182.out 0
       have hfz36_1 := blk_frozen BK182.out 1
       have hfz36_2 := blk_frozen BK182.out 2
       go_wp2
       go_ret
       exact ⟨by first | rfl | (simp [errW_none, errW_some] <;> rfl) | (simp [*, errW_none, errW_some] <;> rfl), bel_⟩
   ·rw [if_neg c16] at H
    have c16b0 : ((l0_2.length : Int) == (l1_2.length : Int)) = false := beq_eq_false_iff_ne.mpr c16
    have c16b1 : ((l0_2.length : Int) != (l1_2.length : Int)) = true := bne_iff_ne.mpr c16
    have c16b2 : (l0_2.length == l1_2.length) = false := by first | simpa using c16 | (simp at c16 ⊢; omega)
    by_cases c37 : (l0_2.length : Int) < (l1_2.length : Int)
    ·rw [if_pos c37] at H
     have c37b0 : decide ((l0_2.length : Int) < (l1_2.length : Int)) = true := decide_eq_true c37
     have c37b1 : decide (l0_2.length < l1_2.length) = true := decide_eq_true (Int.ofNat_lt.mp c37)
     clear c37
     obtain rfl := Option.some.inj H
     go_enter Try.func106, Try.ntmps106
     go_wp2_with (first | ((with_reducible refine gate_dst (N := 2) rfl ?_); refine box_event ?hg (N := 2) ?hd (cs := #[.bool a0_0, .string a0_1, .slice A0_2 l0_2.length c0_2]) (t := 24) ?hr ?_; (case hd => rfl); (case hg => rfl); (case hr => first | (go_simp; done) | (go_simp; rfl)); intro gb182 hg w38 hbox hb; have n0_ := Aside0.mk (below_step bel_ hb); have n1_ := Aside0.mk (hbox); have n2_ := Aside0.mk ((by rw [hg]; exact (below_size bel_) : w.heap.size ≤ gb182)); have n3_ := Aside0.mk ((by rw [hg]; exact (below_size bel_) : w.heap.size ≤ gb182)); clear HB; have HB := n0_; have BK182 := n1_; have GW182 := n2_; have GE182 := n3_; clear n0_ n1_ n2_ n3_; clear hb hbox hg) | ((with_reducible refine gate_dst (N := 3) rfl ?_); refine box_event ?hg (N := 3) ?hd (cs := #[.bool a1_0, .string a1_1, .slice A1_2 l1_2.length c1_2]) (t := 24) ?hr ?_; (case hd => rfl); (case hg => rfl); (case hr => first | (go_simp; done) | (go_simp; rfl)); intro gb183 hg w39 hbox hb; have n0_ := Aside0.mk (blk_below (g := gb182) (o := .cells #[.bool a0_0, .string a0_1, .slice A0_2 l0_2.length c0_2] 24 (0, 0)) (bk_ BK182) hb); have n1_ := Aside0.mk (below_step bel_ hb); have n2_ := Aside0.mk (hbox); have n3_ := Aside0.mk ((by rw [hg]; exact (below_size bel_) : w.heap.size ≤ gb183)); have n4_ := Aside0.mk ((by rw [hg]; exact (below_size bel_) : w.heap.size ≤ gb183)); have n5_ := Aside0.mk ((by rw [hg]; exact Nat.ne_of_lt (blk_lt (g := gb182) (o := .cells #[.bool a0_0, .string a0_1, .slice A0_2 l0_2.length c0_2] 24 (0, 0)) (bk_ BK182)) : gb182 ≠ gb183)); have n6_ := Aside0.mk ((by rw [hg]; exact Nat.ne_of_gt (blk_lt (g := gb182) (o := .cells #[.bool a0_0, .string a0_1, .slice A0_2 l0_2.length c0_2] 24 (0, 0)) (bk_ BK182)) : gb183 ≠ gb182)); clear BK182; clear HB; have BK182 := n0_; have HB := n1_; have BK183 := n2_; have GW183 := n3_; have GE183 := n4_; have NB182_183 := n5_; have NB183_182 := n6_; clear n0_ n1_ n2_ n3_ n4_ n5_ n6_; clear hb hbox hg; have hnb40 := NB182_183.out; have hnc40 := NB183_182.out; have hcz41_0 : w39.cell? ⟨gb182, 0, none⟩ = some (.bool a0_0) := (blk_cell BK182.out 0).trans rfl; have hcz41_1 : w39.cell? ⟨gb182, 1, none⟩ = some (.string a0_1) := (blk_cell BK182.out 1).trans rfl; have hcz41_2 : w39.cell? ⟨gb182, 2, none⟩ = some (.slice A0_2 l0_2.length c0_2) := (blk_cell BK182.out 2).trans rfl; have hfz41_0 := blk_frozen BK182.out 0; have hfz41_1 := blk_frozen BK182.out 1; have hfz41_2 := blk_frozen BK182.out 2; have hcz42_0 : w39.cell? ⟨gb183, 0, none⟩ = some (.bool a1_0) := (blk_cell BK183.out 0).trans rfl; have hcz42_1 : w39.cell? ⟨gb183, 1, none⟩ = some (.string a1_1) := (blk_cell BK183.out 1).trans rfl; have hcz42_2 : w39.cell? ⟨gb183, 2, none⟩ = some (.slice A1_2 l1_2.length c1_2) := (blk_cell BK183.out 2).trans rfl; have hfz42_0 := blk_frozen BK183.out 0; have hfz42_1 := blk_frozen BK183.out 1; have hfz42_2 := blk_frozen BK183.out 2))
     go_ret
     exact ⟨by first | rfl | (simp [errW_none, errW_some] <;> rfl) | (simp [*, errW_none, errW_some] <;> rfl), bel_⟩
    ·rw [if_neg c37] at H
     have c37b0 : decide ((l0_2.length : Int) < (l1_2.length : Int)) = false := decide_eq_false c37
     have c37b1 : decide (l0_2.length < l1_2.length) = false := decide_eq_false (fun h => c37 (Int.ofNat_lt.mpr h))
     clear c37
     obtain rfl := Option.some.inj H
     go_enter Try.func106, Try.ntmps106
     go_wp2_with (first | ((with_reducible refine gate_dst (N := 2) rfl ?_); refine box_event ?hg (N := 2) ?hd (cs := #[.bool a0_0, .string a0_1, .slice A0_2 l0_2.length c0_2]) (t := 24) ?hr ?_; (case hd => rfl); (case hg => rfl); (case hr => first | (go_simp; done) | (go_simp; rfl)); intro gb182 hg w43 hbox hb; have n0_ := Aside0.mk (below_step bel_ hb); have n1_ := Aside0.mk (hbox); have n2_ := Aside0.mk ((by rw [hg]; exact (below_size bel_) : w.heap.size ≤ gb182)); have n3_ := Aside0.mk ((by rw [hg]; exact (below_size bel_) : w.heap.size ≤ gb182)); clear HB; have HB := n0_; have BK182 := n1_; have GW182 := n2_; have GE182 := n3_; clear n0_ n1_ n2_ n3_; clear hb hbox hg) | ((with_reducible refine gate_dst (N := 3) rfl ?_); refine box_event ?hg (N := 3) ?hd (cs := #[.bool a1_0, .string a1_1, .slice A1_2 l1_2.length c1_2]) (t := 24) ?hr ?_; (case hd => rfl); (case hg => rfl); (case hr => first | (go_simp; done) | (go_simp; rfl)); intro gb183 hg w44 hbox hb; have n0_ := Aside0.mk (blk_below (g := gb182) (o := .cells #[.bool a0_0, .string a0_1, .slice A0_2 l0_2.length c0_2] 24 (0, 0)) (bk_ BK182) hb); have n1_ := Aside0.mk (below_step bel_ hb); have n2_ := Aside0.mk (hbox); have n3_ := Aside0.mk ((by rw [hg]; exact (below_size bel_) : w.heap.size ≤ gb183)); have n4_ := Aside0.mk ((by rw [hg]; exact (below_size bel_) : w.heap.size ≤ gb183)); have n5_ := Aside0.mk ((by rw [hg]; exact Nat.ne_of_lt (blk_lt (g := gb182) (o := .cells #[.bool a0_0, .string a0_1, .slice A0_2 l0_2.length c0_2] 24 (0, 0)) (bk_ BK182)) : gb182 ≠ gb183)); have n6_ := Aside0.mk ((by rw [hg]; exact Nat.ne_of_gt (blk_lt (g := gb182) (o := .cells #[.bool a0_0, .string a0_1, .slice A0_2 l0_2.length c0_2] 24 (0, 0)) (bk_ BK182)) : gb183 ≠ gb182)); clear BK182; clear HB; have BK182 := n0_; have HB := n1_; have BK183 := n2_; have GW183 := n3_; have GE183 := n4_; have NB182_183 := n5_; have NB183_182 := n6_; clear n0_ n1_ n2_ n3_ n4_ n5_ n6_; clear hb hbox hg; have hnb45 := NB182_183.out; have hnc45 := NB183_182.out; have hcz46_0 : w44.cell? ⟨gb182, 0, none⟩ = some (.bool a0_0) := (blk_cell BK182.out 0).trans rfl; have hcz46_1 : w44.cell? ⟨gb182, 1, none⟩ = some (.string a0_1) := (blk_cell BK182.out 1).trans rfl; have hcz46_2 : w44.cell? ⟨gb182, 2, none⟩ = some (.slice A0_2 l0_2.length c0_2) := (blk_cell BK182.out 2).trans rfl; have hfz46_0 := blk_frozen BK182.out 0; have hfz46_1 := blk_frozen BK182.out 1; have hfz46_2 := blk_frozen BK182.out 2; have hcz47_0 : w44.cell? ⟨gb183, 0, none⟩ = some (.bool a1_0) := (blk_cell BK183.out 0).trans rfl; have hcz47_1 : w44.cell? ⟨gb183, 1, none⟩ = some (.string a1_1) := (blk_cell BK183.out 1).trans rfl; have hcz47_2 : w44.cell? ⟨gb183, 2, none⟩ = some (.slice A1_2 l1_2.length c1_2) := (blk_cell BK183.out 2).trans rfl; have hfz47_0 := blk_frozen BK183.out 0; have hfz47_1 := blk_frozen BK183.out 1; have hfz47_2 := blk_frozen BK183.out 2))
     go_ret
     exact ⟨by first | rfl | (simp [errW_none, errW_some] <;> rfl) | (simp [*, errW_none, errW_some] <;> rfl), bel_⟩
  ·rw [if_neg c15] at H
   have c15b0 : (a0_1.toList == a1_1.toList) = false := beq_eq_false_iff_ne.mpr c15
   have c15b1 : (a0_1.toList != a1_1.toList) = true := bne_iff_ne.mpr c15
   by_cases c48 : (Op.bytesLess a0_1.toList a1_1.toList) = true
   ·rw [if_pos c48] at H
    have c48b0 : (Op.bytesLess a0_1.toList a1_1.toList) = true := c48
    clear c48
    obtain rfl := Option.some.inj H
    go_enter Try.func106, Try.ntmps106
    go_wp2_with (first | ((with_reducible refine gate_dst (N := 2) rfl ?_); refine box_event ?hg (N := 2) ?hd (cs := #[.bool a0_0, .string a0_1, .slice A0_2 l0_2.length c0_2]) (t := 24) ?hr ?_; (case hd => rfl); (case hg => rfl); (case hr => first | (go_simp; done) | (go_simp; rfl)); intro gb182 hg w49 hbox hb; have n0_ := Aside0.mk (below_step bel_ hb); have n1_ := Aside0.mk (hbox); have n2_ := Aside0.mk ((by rw [hg]; exact (below_size bel_) : w.heap.size ≤ gb182)); have n3_ := Aside0.mk ((by rw [hg]; exact (below_size bel_) : w.heap.size ≤ gb182)); clear HB; have HB := n0_; have BK182 := n1_; have GW182 := n2_; have GE182 := n3_; clear n0_ n1_ n2_ n3_; clear hb hbox hg) | ((with_reducible refine gate_dst (N := 3) rfl ?_); refine box_event ?hg (N := 3) ?hd (cs := #[.bool a1_0, .string a1_1, .slice A1_2 l1_2.length c1_2]) (t := 24) ?hr ?_; (case hd => rfl); (case hg => rfl); (case hr => first | (go_simp; done) | (go_simp; rfl)); intro gb183 hg w50 hbox hb; have n0_ := Aside0.mk (blk_below (g := gb182) (o := .cells #[.bool a0_0, .string a0_1, .slice A0_2 l0_2.length c0_2] 24 (0, 0)) (bk_ BK182) hb); have n1_ := Aside0.mk (below_step bel_ hb); have n2_ := Aside0.mk (hbox); have n3_ := Aside0.mk ((by rw [hg]; exact (below_size bel_) : w.heap.size ≤ gb183)); have n4_ := Aside0.mk ((by rw [hg]; exact (below_size bel_) : w.heap.size ≤ gb183)); have n5_ := Aside0.mk ((by rw [hg]; exact Nat.ne_of_lt (blk_lt (g := gb182) (o := .cells #[.bool a0_0, .string a0_1, .slice A0_2 l0_2.length c0_2] 24 (0, 0)) (bk_ BK182)) : gb182 ≠ gb183)); have n6_ := Aside0.mk ((by rw [hg]; exact Nat.ne_of_gt (blk_lt (g := gb182) (o := .cells #[.bool a0_0, .string a0_1, .slice A0_2 l0_2.length c0_2] 24 (0, 0)) (bk_ BK182)) : gb183 ≠ gb182)); clear BK182; clear HB; have BK182 := n0_; have HB := n1_; have BK183 := n2_; have GW183 := n3_; have GE183 := n4_; have NB182_183 := n5_; have NB183_182 := n6_; clear n0_ n1_ n2_ n3_ n4_ n5_ n6_; clear hb hbox hg; have hnb51 := NB182_183.out; have hnc51 := NB183_182.out; have hcz52_0 : w50.cell? ⟨gb182, 0, none⟩ = some (.bool a0_0) := (blk_cell BK182.out 0).trans rfl; have hcz52_1 : w50.cell? ⟨gb182, 1, none⟩ = some (.string a0_1) := (blk_cell BK182.out 1).trans rfl; have hcz52_2 : w50.cell? ⟨gb182, 2, none⟩ = some (.slice A0_2 l0_2.length c0_2) := (blk_cell BK182.out 2).trans rfl; have hfz52_0 := blk_frozen BK182.out 0; have hfz52_1 := blk_frozen BK182.out 1; have hfz52_2 := blk_frozen BK182.out 2; have hcz53_0 : w50.cell? ⟨gb183, 0, none⟩ = some (.bool a1_0) := (blk_cell BK183.out 0).trans rfl; have hcz53_1 : w50.cell? ⟨gb183, 1, none⟩ = some (.string a1_1) := (blk_cell BK183.out 1).trans rfl; have hcz53_2 : w50.cell? ⟨gb183, 2, none⟩ = some (.slice A1_2 l1_2.length c1_2) := (blk_cell BK183.out 2).trans rfl; have hfz53_0 := blk_frozen BK183.out 0; have hfz53_1 := blk_frozen BK183.out 1; have hfz53_2 := blk_frozen BK183.out 2))
    go_ret
    exact ⟨by first | rfl | (simp [errW_none, errW_some] <;> rfl) | (simp [*, errW_none, errW_some] <;> rfl), bel_⟩
   ·rw [if_neg c48] at H
    have c48b0 : (Op.bytesLess a0_1.toList a1_1.toList) = false := by simpa using c48
    clear c48
    obtain rfl := Option.some.inj H
    go_enter Try.func106, Try.ntmps106
    go_wp2_with (first | ((with_reducible refine gate_dst (N := 2) rfl ?_); refine box_event ?hg (N := 2) ?hd (cs := #[.bool a0_0, .string a0_1, .slice A0_2 l0_2.length c0_2]) (t := 24) ?hr ?_; (case hd => rfl); (case hg => rfl); (case hr => first | (go_simp; done) | (go_simp; rfl)); intro gb182 hg w54 hbox hb; have n0_ := Aside0.mk (below_step bel_ hb); have n1_ := Aside0.mk (hbox); have n2_ := Aside0.mk ((by rw [hg]; exact (below_size bel_) : w.heap.size ≤ gb182)); have n3_ := Aside0.mk ((by rw [hg]; exact (below_size bel_) : w.heap.size ≤ gb182)); clear HB; have HB := n0_; have BK182 := n1_; have GW182 := n2_; have GE182 := n3_; clear n0_ n1_ n2_ n3_; clear hb hbox hg) | ((with_reducible refine gate_dst (N := 3) rfl ?_); refine box_event ?hg (N := 3) ?hd (cs := #[.bool a1_0, .string a1_1, .slice A1_2 l1_2.length c1_2]) (t := 24) ?hr ?_; (case hd => rfl); (case hg => rfl); (case hr => first | (go_simp; done) | (go_simp; rfl)); intro gb183 hg w55 hbox hb; have n0_ := Aside0.mk (blk_below (g := gb182) (o := .cells #[.bool a0_0, .string a0_1, .slice A0_2 l0_2.length c0_2] 24 (0, 0)) (bk_ BK182) hb); have n1_ := Aside0.mk (below_step bel_ hb); have n2_ := Aside0.mk (hbox); have n3_ := Aside0.mk ((by rw [hg]; exact (below_size bel_) : w.heap.size ≤ gb183)); have n4_ := Aside0.mk ((by rw [hg]; exact (below_size bel_) : w.heap.size ≤ gb183)); have n5_ := Aside0.mk ((by rw [hg]; exact Nat.ne_of_lt (blk_lt (g := gb182) (o := .cells #[.bool a0_0, .string a0_1, .slice A0_2 l0_2.length c0_2] 24 (0, 0)) (bk_ BK182)) : gb182 ≠ gb183)); have n6_ := Aside0.mk ((by rw [hg]; exact Nat.ne_of_gt (blk_lt (g := gb182) (o := .cells #[.bool a0_0, .string a0_1, .slice A0_2 l0_2.length c0_2] 24 (0, 0)) (bk_ BK182)) : gb183 ≠ gb182)); clear BK182; clear HB; have BK182 := n0_; have HB := n1_; have BK183 := n2_; have GW183 := n3_; have GE183 := n4_; have NB182_183 := n5_; have NB183_182 := n6_; clear n0_ n1_ n2_ n3_ n4_ n5_ n6_; clear hb hbox hg; have hnb56 := NB182_183.out; have hnc56 := NB183_182.out; have hcz57_0 : w55.cell? ⟨gb182, 0, none⟩ = some (.bool a0_0) := (blk_cell BK182.out 0).trans rfl; have hcz57_1 : w55.cell? ⟨gb182, 1, none⟩ = some (.string a0_1) := (blk_cell BK182.out 1).trans rfl; have hcz57_2 : w55.cell? ⟨gb182, 2, none⟩ = some (.slice A0_2 l0_2.length c0_2) := (blk_cell BK182.out 2).trans rfl; have hfz57_0 := blk_frozen BK182.out 0; have hfz57_1 := blk_frozen BK182.out 1; have hfz57_2 := blk_frozen BK182.out 2; have hcz58_0 : w55.cell? ⟨gb183, 0, none⟩ = some (.bool a1_0) := (blk_cell BK183.out 0).trans rfl; have hcz58_1 : w55.cell? ⟨gb183, 1, none⟩ = some (.string a1_1) := (blk_cell BK183.out 1).trans rfl; have hcz58_2 : w55.cell? ⟨gb183, 2, none⟩ = some (.slice A1_2 l1_2.length c1_2) := (blk_cell BK183.out 2).trans rfl; have hfz58_0 := blk_frozen BK183.out 0; have hfz58_1 := blk_frozen BK183.out 1; have hfz58_2 := blk_frozen BK183.out 2))
    go_ret
    exact ⟨by first | rfl | (simp [errW_none, errW_some] <;> rfl) | (simp [*, errW_none, errW_some] <;> rfl), bel_⟩

end Go.Proofs.Ytecplbgdalchdaa.Q
-- written by a program of this session (wip/tools/myprint.py) out of the translation
namespace Go.Proofs.Ytecplbgdalchdaa.Q
open Go.RowKit Go.Proofs.YtecplbgdalchdaaW.PrintWords Go.Proofs.YtecplbgdalchdaaW.PrintLast Go.Proofs.YtecplbgdalchdaaW.PrintMore
attribute [local go_sem] max2_int min2_int max_two min_two max_three min_three max_four min_four   -- for this text's walks alone
set_option linter.unusedVariables false
set_option linter.unusedSimpArgs false

/-! ### sequentref01_Same: function 31 -/
def sequentref01_Same.f (k : Nat) (a0_0 : Bool) (a0_1 : ByteArray) (l0_2 : List (S24)) (a1_0 : Bool) (a1_1 : ByteArray) (l1_2 : List (S24)) : Option (Bool) := (sequentref01_Compare.f k a0_0 a0_1 l0_2 a1_0 a1_1 l1_2).bind fun t189 => (some (t189 == 0))
set_option maxHeartbeats 8000000 in
set_option maxRecDepth 100000 in
theorem sequentref01_Same.calls (k : Nat) (a0_0 : Bool) (a0_1 : ByteArray) (A0_2 : Option Addr) (c0_2 : Nat) (l0_2 : List (S24)) (a1_0 : Bool) (a1_1 : ByteArray) (A1_2 : Option Addr) (c1_2 : Nat) (l1_2 : List (S24)) (r : Bool) (w : World) (hr0_2 : Kd.C k24 w A0_2 l0_2.length l0_2) (hc0_2 : l0_2.length ≤ c0_2) (hr1_2 : Kd.C k24 w A1_2 l1_2.length l1_2) (hc1_2 : l1_2.length ≤ c1_2) (h : sequentref01_Same.f k a0_0 a0_1 l0_2 a1_0 a1_1 l1_2 = some r) :
 Calls Try.prog 31 #[.agg #[.bool a0_0, .string a0_1, .slice A0_2 l0_2.length c0_2], .agg #[.bool a1_0, .string a1_1, .slice A1_2 l1_2.length c1_2]] w fun e w' => e = .returned (.bool r) ∧ Below w.heap.size w w' := by
 have hu24 := Try.underlying24
 have HR0_2 := Aside0.mk hr0_2
 have HC0_2 := Aside0.mk hc0_2
 clear hr0_2 hc0_2
 have HR1_2 := Aside0.mk hr1_2
 have HC1_2 := Aside0.mk hc1_2
 clear hr1_2 hc1_2
 have HB := Aside0.mk (Below.refl w.heap.size w)
 have H : ((sequentref01_Compare.f k a0_0 a0_1 l0_2 a1_0 a1_1 l1_2).bind fun t189 => (some (t189 == 0))) = some r := h
 clear h
 replace H := Option.bind_eq_some_iff.mp H
 obtain ⟨t189, A30, H⟩ := H
 replace H : (some (t189 == 0)) = some r := H
 have A3 := Aside0.mk A30
 clear A30
 obtain rfl := Option.some.inj H
 go_enter Try.func31, Try.ntmps31
 go_wp2_with (first | ((with_reducible refine gate_dst (N := 2) rfl ?_); refine box_event ?hg (N := 2) ?hd (cs := #[.bool a0_0, .string a0_1, .slice A0_2 l0_2.length c0_2]) (t := 24) ?hr ?_; (case hd => rfl); (case hg => rfl); (case hr => first | (go_simp; done) | (go_simp; rfl)); intro gb187 hg w4 hbox hb; have n0_ := Aside0.mk (below_step bel_ hb); have n1_ := Aside0.mk (hbox); have n2_ := Aside0.mk ((by rw [hg]; exact (below_size bel_) : w.heap.size ≤ gb187)); have n3_ := Aside0.mk ((by rw [hg]; exact (below_size bel_) : w.heap.size ≤ gb187)); clear HB; have HB := n0_; have BK187 := n1_; have GW187 := n2_; have GE187 := n3_; clear n0_ n1_ n2_ n3_; clear hb hbox hg) | ((with_reducible refine gate_dst (N := 3) rfl ?_); refine box_event ?hg (N := 3) ?hd (cs := #[.bool a1_0, .string a1_1, .slice A1_2 l1_2.length c1_2]) (t := 24) ?hr ?_; (case hd => rfl); (case hg => rfl); (case hr => first | (go_simp; done) | (go_simp; rfl)); intro gb188 hg w5 hbox hb; have n0_ := Aside0.mk (blk_below (g := gb187) (o := .cells #[.bool a0_0, .string a0_1, .slice A0_2 l0_2.length c0_2] 24 (0, 0)) (bk_ BK187) hb); have n1_ := Aside0.mk (below_step bel_ hb); have n2_ := Aside0.mk (hbox); have n3_ := Aside0.mk ((by rw [hg]; exact (below_size bel_) : w.heap.size ≤ gb188)); have n4_ := Aside0.mk ((by rw [hg]; exact (below_size bel_) : w.heap.size ≤ gb188)); have n5_ := Aside0.mk ((by rw [hg]; exact Nat.ne_of_lt (blk_lt (g := gb187) (o := .cells #[.bool a0_0, .string a0_1, .slice A0_2 l0_2.length c0_2] 24 (0, 0)) (bk_ BK187)) : gb187 ≠ gb188)); have n6_ := Aside0.mk ((by rw [hg]; exact Nat.ne_of_gt (blk_lt (g := gb187) (o := .cells #[.bool a0_0, .string a0_1, .slice A0_2 l0_2.length c0_2] 24 (0, 0)) (bk_ BK187)) : gb188 ≠ gb187)); clear BK187; clear HB; have BK187 := n0_; have HB := n1_; have BK188 := n2_; have GW188 := n3_; have GE188 := n4_; have NB187_188 := n5_; have NB188_187 := n6_; clear n0_ n1_ n2_ n3_ n4_ n5_ n6_; clear hb hbox hg; have hnb6 := NB187_188.out; have hnc6 := NB188_187.out; have hcz7_0 : w5.cell? ⟨gb187, 0, none⟩ = some (.bool a0_0) := (blk_cell BK187.out 0).trans rfl; have hcz7_1 : w5.cell? ⟨gb187, 1, none⟩ = some (.string a0_1) := (blk_cell BK187.out 1).trans rfl; have hcz7_2 : w5.cell? ⟨gb187, 2, none⟩ = some (.slice A0_2 l0_2.length c0_2) := (blk_cell BK187.out 2).trans rfl; have hfz7_0 := blk_frozen BK187.out 0; have hfz7_1 := blk_frozen BK187.out 1; have hfz7_2 := blk_frozen BK187.out 2; have hcz8_0 : w5.cell? ⟨gb188, 0, none⟩ = some (.bool a1_0) := (blk_cell BK188.out 0).trans rfl; have hcz8_1 : w5.cell? ⟨gb188, 1, none⟩ = some (.string a1_1) := (blk_cell BK188.out 1).trans rfl; have hcz8_2 : w5.cell? ⟨gb188, 2, none⟩ = some (.slice A1_2 l1_2.length c1_2) := (blk_cell BK188.out 2).trans rfl; have hfz8_0 := blk_frozen BK188.out 0; have hfz8_1 := blk_frozen BK188.out 1; have hfz8_2 := blk_frozen BK188.out 2) | ((with_reducible refine gate_callee (f := 106) rfl ?_); refine goesL_ (some 7) rfl rfl Try.func106 (by kernel_rfl) rfl #[.agg #[.bool a0_0, .string a0_1, .slice A0_2 l0_2.length c0_2], .agg #[.bool a1_0, .string a1_1, .slice A1_2 l1_2.length c1_2]] rfl (by (try simp only [List.map_toArray, List.map_cons, List.map_nil]); first | done | rfl | (simp only [List.length_drop, List.length_take]; rfl)) ?_; (with_reducible refine (sequentref01_Compare.calls k a0_0 a0_1 _ _ l0_2 a1_0 a1_1 _ _ l1_2 t189 _ ?side1 ?side2 ?side3 ?side4 A3.out).mono ?_); (case side1 => repeat (first | exact (Kd.C_below HR0_2.out HB.out) | (with_reducible refine Kd.C_alloc ?_ _) | (with_reducible refine Kd.C_drewN ?_ _) | (with_reducible refine Kd.C_drew ?_))); (case side2 => exact HC0_2.out); (case side3 => repeat (first | exact (Kd.C_below HR1_2.out HB.out) | (with_reducible refine Kd.C_alloc ?_ _) | (with_reducible refine Kd.C_drewN ?_ _) | (with_reducible refine Kd.C_drew ?_))); (case side4 => exact HC1_2.out); rintro e w9 ⟨rfl, hb⟩; refine ⟨_, rfl, ?_⟩; have n0_ := Aside0.mk (blk_below (g := gb187) (o := .cells #[.bool a0_0, .string a0_1, .slice A0_2 l0_2.length c0_2] 24 (0, 0)) (bk_ BK187) hb); have n1_ := Aside0.mk (blk_below (g := gb188) (o := .cells #[.bool a1_0, .string a1_1, .slice A1_2 l1_2.length c1_2] 24 (0, 0)) (bk_ BK188) hb); have n2_ := Aside0.mk (below_step bel_ hb); clear BK187; clear BK188; clear HB; have BK187 := n0_; have BK188 := n1_; have HB := n2_; clear n0_ n1_ n2_; (try clear hb); (try clear hb2); (try clear hk); (try clear hi)))
 go_ret
 exact ⟨by first | rfl | (simp [errW_none, errW_some] <;> rfl) | (simp [*, errW_none, errW_some] <;> rfl), bel_⟩

end Go.Proofs.Ytecplbgdalchdaa.Q
-- written by a program of this session (wip/tools/myprint.py) out of the translation
namespace Go.Proofs.Ytecplbgdalchdaa.Q
open Go.RowKit Go.Proofs.YtecplbgdalchdaaW.PrintWords Go.Proofs.YtecplbgdalchdaaW.PrintLast Go.Proofs.YtecplbgdalchdaaW.PrintMore
attribute [local go_sem] max2_int min2_int max_two min_two max_three min_three max_four min_four   -- for this text's walks alone
set_option linter.unusedVariables false
set_option linter.unusedSimpArgs false

/-! ### sequentref04_Operator: function 149 -/
def sequentref04_Operator.f (k : Nat) (a0 : ByteArray) : Option (Bool) := (sequentref01_Name.f k a0).bind fun t1034 => (if t1034 = true then (if 0 < (a0.size : Int) then (some ((bt a0 0) != 39)) else (none)) else (some false))
set_option maxHeartbeats 8000000 in
set_option maxRecDepth 100000 in
theorem sequentref04_Operator.calls (k : Nat) (a0 : ByteArray) (r : Bool) (w : World) (h : sequentref04_Operator.f k a0 = some r) :
 Calls Try.prog 149 #[.string a0] w fun e w' => e = .returned (.bool r) ∧ Drawn0 w w' := by
 have H : ((sequentref01_Name.f k a0).bind fun t1034 => (if t1034 = true then (if 0 < (a0.size : Int) then (some ((bt a0 0) != 39)) else (none)) else (some false))) = some r := h
 clear h
 replace H := Option.bind_eq_some_iff.mp H
 obtain ⟨t1034, A20, H⟩ := H
 replace H : (if t1034 = true then (if 0 < (a0.size : Int) then (some ((bt a0 0) != 39)) else (none)) else (some false)) = some r := H
 have A2 := Aside0.mk A20
 clear A20
 by_cases c3 : t1034 = true
 ·subst c3
  have H1 : (if 0 < (a0.size : Int) then (some ((bt a0 0) != 39)) else (none)) = some r := by rw [if_pos rfl] at H; exact H
  clear H
  have H := H1
  clear H1
  by_cases c4 : 0 < (a0.size : Int)
  ·rw [if_pos c4] at H
   have c4b0 : decide (0 < (a0.size : Int)) = true := decide_eq_true c4
   have c4b1 : decide (0 < a0.size) = true := decide_eq_true (by omega)
   clear c4
   obtain rfl := Option.some.inj H
   go_enter Try.func149, Try.ntmps149
   go_wp2_with (first | ((with_reducible refine gate_callee (f := 115) rfl ?_); refine goesL_ (some 4) rfl rfl Try.func115 (by kernel_rfl) rfl #[.string a0] rfl (by (try simp only [List.map_toArray, List.map_cons, List.map_nil]); first | done | rfl | (simp only [List.length_drop, List.length_take]; rfl)) ?_; (with_reducible refine (sequentref01_Name.calls k a0 true _ A2.out).mono ?_); rintro e w' ⟨rfl, ⟨nd, rfl⟩⟩; refine ⟨_, rfl, ?_⟩; have p5 : 0 ≤ (0 : Int) := (by omega); have q5 : 0 < a0.size := (by have : (0 : Int) < (a0.size : Int) := dq_; omega); have hx5 : ∀ h : 0 < a0.size, ((a0[0]'h).toNat : Int) = bt a0 0 := bt_at a0 0; clear p5; have qi5 : (0 < (a0.size : Int)) = True := eq_true (dq_); replace q5 := eq_true q5))
   go_ret
   exact ⟨by first | rfl | (simp; done) | (simp [*]; done), by repeat (first | exact Drawn0.refl _ | apply Drawn0.step)⟩
  ·rw [if_neg c4] at H
   exact absurd H (by simp)
 ·replace c3 := Bool.eq_false_iff.mpr c3
  subst c3
  have H1 : (some false) = some r := by rw [if_neg (show ¬ (false = true) by decide)] at H; exact H
  clear H
  have H := H1
  clear H1
  obtain rfl := Option.some.inj H
  go_enter Try.func149, Try.ntmps149
  go_wp2_with (first | ((with_reducible refine gate_callee (f := 115) rfl ?_); refine goesL_ (some 4) rfl rfl Try.func115 (by kernel_rfl) rfl #[.string a0] rfl (by (try simp only [List.map_toArray, List.map_cons, List.map_nil]); first | done | rfl | (simp only [List.length_drop, List.length_take]; rfl)) ?_; (with_reducible refine (sequentref01_Name.calls k a0 false _ A2.out).mono ?_); rintro e w' ⟨rfl, ⟨nd, rfl⟩⟩; refine ⟨_, rfl, ?_⟩))
  go_ret
  exact ⟨by first | rfl | (simp; done) | (simp [*]; done), by repeat (first | exact Drawn0.refl _ | apply Drawn0.step)⟩

end Go.Proofs.Ytecplbgdalchdaa.Q
-- written by a program of this session (wip/tools/myprint.py) out of the translation
namespace Go.Proofs.Ytecplbgdalchdaa.Q
open Go.RowKit Go.Proofs.YtecplbgdalchdaaW.PrintWords Go.Proofs.YtecplbgdalchdaaW.PrintLast Go.Proofs.YtecplbgdalchdaaW.PrintMore
attribute [local go_sem] max2_int min2_int max_two min_two max_three min_three max_four min_four   -- for this text's walks alone
set_option linter.unusedVariables false
set_option linter.unusedSimpArgs false

/-! ### sequentref04_TypeOp: function 72 -/
def sequentref04_TypeOp.l0 : Nat → ByteArray → Int → List (S106) → List (S108) → Option (Int × Bool)
 | 0, _, _, _, _ => none
 | k + 1, x1, x6, x1011000, x1011001 => if x6 < (x1011000.length : Int) then (if 0 ≤ x6 then (if ((rd_T106 x1011000 x6).f0).toList = x1.toList then (some ((rd_T106 x1011000 x6).f1, true)) else (sequentref04_TypeOp.l0 k x1 (wrap64 (x6 + 1)) x1011000 x1011001)) else (none)) else (some (0, false))
def sequentref04_TypeOp.f (k : Nat) (l0_0 : List (S106)) (l0_1 : List (S108)) (a1 : ByteArray) : Option (Int × Bool) := sequentref04_TypeOp.l0 k a1 0 l0_0 l0_1
set_option maxHeartbeats 8000000 in
set_option maxRecDepth 100000 in
theorem sequentref04_TypeOp.calls (k : Nat) (A0_0 : Option Addr) (c0_0 : Nat) (l0_0 : List (S106)) (A0_1 : Option Addr) (c0_1 : Nat) (l0_1 : List (S108)) (a1 : ByteArray) (r1 : Int) (r2 : Bool) (w : World) (hr0_0 : Kd.C k106 w A0_0 l0_0.length l0_0) (hc0_0 : l0_0.length ≤ c0_0) (hr0_1 : Kd.C k108 w A0_1 l0_1.length l0_1) (hc0_1 : l0_1.length ≤ c0_1) (h : sequentref04_TypeOp.f k l0_0 l0_1 a1 = some (r1, r2)) :
 Calls Try.prog 72 #[.agg #[.slice A0_0 l0_0.length c0_0, .slice A0_1 l0_1.length c0_1], .string a1] w fun e w' => e = .returned (.tuple #[.int .i64 r1, .bool r2]) ∧ Below w.heap.size w w' := by
 have hu94 := Try.underlying94
 have HR0_0 := Aside0.mk hr0_0
 have HC0_0 := Aside0.mk hc0_0
 clear hr0_0 hc0_0
 have HR0_1 := Aside0.mk hr0_1
 have HC0_1 := Aside0.mk hc0_1
 clear hr0_1 hc0_1
 have HB := Aside0.mk (Below.refl w.heap.size w)
 have H : (sequentref04_TypeOp.l0 k a1 0 l0_0 l0_1) = some (r1, r2) := h
 clear h
 have H' := Aside0.mk H
 clear H
 go_enter Try.func72, Try.ntmps72
 go_wp2_with (first | ((with_reducible refine gate_dst (N := 2) rfl ?_); refine box_event ?hg (N := 2) ?hd (cs := #[.slice A0_0 l0_0.length c0_0, .slice A0_1 l0_1.length c0_1]) (t := 94) ?hr ?_; (case hd => rfl); (case hg => rfl); (case hr => first | (go_simp; done) | (go_simp; rfl)); intro gb1010 hg w3 hbox hb; have n0_ := Aside0.mk (below_step bel_ hb); have n1_ := Aside0.mk (hbox); have n2_ := Aside0.mk ((by rw [hg]; exact (below_size bel_) : w.heap.size ≤ gb1010)); have n3_ := Aside0.mk ((by rw [hg]; exact (below_size bel_) : w.heap.size ≤ gb1010)); clear HB; have HB := n0_; have BK1010 := n1_; have GW1010 := n2_; have GE1010 := n3_; clear n0_ n1_ n2_ n3_; clear hb hbox hg))
 go_loopg [6] k (fun kq v6 w' => ∃ (x6_1 : Int), v6 = .int .i64 x6_1 ∧ Aside0 (sequentref04_TypeOp.l0 kq a1 x6_1 l0_0 l0_1 = some (r1, r2)) ∧ Aside0 (kq ≤ k) ∧ Aside0 (w'.heap[gb1010]? = some (.cells #[(.slice A0_0 l0_0.length c0_0), (.slice A0_1 l0_1.length c0_1)] 94 (0, 0))) ∧ Aside0 (Below w.heap.size w w'))
 case atStart => exact ⟨(0), (by first | rfl | (simp; done) | (simp [*]; done)), H', ⟨Nat.le_refl _⟩, ⟨bk_ BK1010⟩, ⟨bel_⟩⟩
 case round =>
  clear H'
  try clear p2
  obtain ⟨x6_1, rfl, HA, HK1, BK1010, HB⟩ := hrel
  cases gk with
  | zero => exact absurd HA.out (by simp [sequentref04_TypeOp.l0])
  | succ k1 =>
   have H := HA.out
   clear HA
   simp only [sequentref04_TypeOp.l0] at H
   by_cases c4 : x6_1 < (l0_0.length : Int)
   ·rw [if_pos c4] at H
    have c4b0 : decide (x6_1 < (l0_0.length : Int)) = true := decide_eq_true c4
    clear c4
    by_cases c5 : 0 ≤ x6_1
    ·rw [if_pos c5] at H
     have c5b0 : decide (0 ≤ x6_1) = true := decide_eq_true c5
     clear c5
     by_cases c6 : ((rd_T106 l0_0 x6_1).f0).toList = a1.toList
     ·rw [if_pos c6] at H
      have c6b0 : (((rd_T106 l0_0 x6_1).f0).toList == a1.toList) = true := beq_iff_eq.mpr c6
      have c6b1 : (((rd_T106 l0_0 x6_1).f0).toList != a1.toList) = false := bne_eq_false_iff_eq.mpr c6
      clear c6
      simp only [Option.some.injEq, Prod.mk.injEq] at H
      obtain ⟨rfl, rfl⟩ := H
      have hcz7_0 : wr.cell? ⟨gb1010, 0, none⟩ = some (.slice A0_0 l0_0.length c0_0) := (blk_cell BK1010.out 0).trans rfl
      have hcz7_1 : wr.cell? ⟨gb1010, 1, none⟩ = some (.slice A0_1 l0_1.length c0_1) := (blk_cell BK1010.out 1).trans rfl
      have hfz7_0 := blk_frozen BK1010.out 0
      have hfz7_1 := blk_frozen BK1010.out 1
      have p1011 : 0 ≤ (x6_1 : Int) := dq_
      have q1011 : x6_1 < (l0_0.length : Int) := dq_
      obtain ⟨ad1011, e1011, hx1011_0, hx1011_1⟩ := at_T106 HR0_0.out x6_1 p1011 q1011
      cases e1011
      replace hx1011_0 := pw_cell_below HB.out hx1011_0
      replace hx1011_1 := pw_cell_below HB.out hx1011_1
      replace p1011 := eq_true p1011
      replace q1011 := eq_true q1011
      have p1012 : 0 ≤ (x6_1 : Int) := dq_
      have q1012 : x6_1 < (l0_0.length : Int) := dq_
      obtain ⟨ad1012, e1012, hx1012_0, hx1012_1⟩ := at_T106 HR0_0.out x6_1 p1012 q1012
      obtain rfl : ad1011 = ad1012 := (by injection e1012)
      replace hx1012_0 := pw_cell_below HB.out hx1012_0
      replace hx1012_1 := pw_cell_below HB.out hx1012_1
      replace p1012 := eq_true p1012
      replace q1012 := eq_true q1012
      go_wp2
      go_ret2
      exact ⟨by first | rfl | (simp [errW_none, errW_some] <;> rfl) | (simp [*, errW_none, errW_some] <;> rfl), bel_⟩
     ·rw [if_neg c6] at H
      have c6b0 : (((rd_T106 l0_0 x6_1).f0).toList == a1.toList) = false := beq_eq_false_iff_ne.mpr c6
      have c6b1 : (((rd_T106 l0_0 x6_1).f0).toList != a1.toList) = true := bne_iff_ne.mpr c6
      have H' := Aside0.mk H
      clear H
      have hcz8_0 : wr.cell? ⟨gb1010, 0, none⟩ = some (.slice A0_0 l0_0.length c0_0) := (blk_cell BK1010.out 0).trans rfl
      have hcz8_1 : wr.cell? ⟨gb1010, 1, none⟩ = some (.slice A0_1 l0_1.length c0_1) := (blk_cell BK1010.out 1).trans rfl
      have hfz8_0 := blk_frozen BK1010.out 0
      have hfz8_1 := blk_frozen BK1010.out 1
      have p1011 : 0 ≤ (x6_1 : Int) := dq_
      have q1011 : x6_1 < (l0_0.length : Int) := dq_
      obtain ⟨ad1011, e1011, hx1011_0, hx1011_1⟩ := at_T106 HR0_0.out x6_1 p1011 q1011
      cases e1011
      replace hx1011_0 := pw_cell_below HB.out hx1011_0
      replace hx1011_1 := pw_cell_below HB.out hx1011_1
      replace p1011 := eq_true p1011
      replace q1011 := eq_true q1011
      go_wp2
      go_roundg k1
      case measure => have := HK1.out; omega
      case rel => exact ⟨(wrap64 (x6_1 + 1)), (by first | rfl | (simp; done) | (simp [*]; done)), H', ⟨by have := HK1.out; omega⟩, ⟨bk_ BK1010⟩, ⟨bel_⟩⟩
    ·rw [if_neg c5] at H
     exact absurd H (by simp)
   ·rw [if_neg c4] at H
    have c4b0 : decide (x6_1 < (l0_0.length : Int)) = false := decide_eq_false c4
    clear c4
    simp only [Option.some.injEq, Prod.mk.injEq] at H
    obtain ⟨rfl, rfl⟩ := H
    have hcz9_0 : wr.cell? ⟨gb1010, 0, none⟩ = some (.slice A0_0 l0_0.length c0_0) := (blk_cell BK1010.out 0).trans rfl
    have hcz9_1 : wr.cell? ⟨gb1010, 1, none⟩ = some (.slice A0_1 l0_1.length c0_1) := (blk_cell BK1010.out 1).trans rfl
    have hfz9_0 := blk_frozen BK1010.out 0
    have hfz9_1 := blk_frozen BK1010.out 1
    go_wp2
    go_ret2
    exact ⟨by first | rfl | (simp [errW_none, errW_some] <;> rfl) | (simp [*, errW_none, errW_some] <;> rfl), bel_⟩

end Go.Proofs.Ytecplbgdalchdaa.Q
-- written by a program of this session (wip/tools/myprint.py) out of the translation
namespace Go.Proofs.Ytecplbgdalchdaa.Q
open Go.RowKit Go.Proofs.YtecplbgdalchdaaW.PrintWords Go.Proofs.YtecplbgdalchdaaW.PrintLast Go.Proofs.YtecplbgdalchdaaW.PrintMore
attribute [local go_sem] max2_int min2_int max_two min_two max_three min_three max_four min_four   -- for this text's walks alone
set_option linter.unusedVariables false
set_option linter.unusedSimpArgs false

/-! ### sequentref04_OverType: function 151 -/
mutual
def sequentref04_OverType.j0 : Nat → Bool → List (S106) → List (S108) → Bool → ByteArray → List (S24) → Option (Bool)
 | 0, _, _, _, _, _, _ => none
 | k + 1, x25, x1036000, x1036001, x1037000, x1037001, x1037002 => if x25 = true then (some false) else (sequentref04_OverType.l0 k 0 x1036000 x1036001 x1037000 x1037001 x1037002)
def sequentref04_OverType.l0 : Nat → Int → List (S106) → List (S108) → Bool → ByteArray → List (S24) → Option (Bool)
 | 0, _, _, _, _, _, _ => none
 | k + 1, x7, x1036000, x1036001, x1037000, x1037001, x1037002 => if x7 < (x1037002.length : Int) then (if 0 ≤ x7 then ((sequentref04_OverType.f k x1036000 x1036001 ((rd_T24 x1037002 x7).f0) ((rd_T24 x1037002 x7).f1) ((rd_T24 x1037002 x7).f2)).bind fun t1040 => (if t1040 = true then (sequentref04_OverType.l0 k (wrap64 (x7 + 1)) x1036000 x1036001 x1037000 x1037001 x1037002) else (some false))) else (none)) else (some true)
def sequentref04_OverType.f : Nat → List (S106) → List (S108) → Bool → ByteArray → List (S24) → Option (Bool)
 | 0, _, _, _, _, _ => none
 | k + 1, l0_0, l0_1, a1_0, a1_1, l1_2 => if a1_0 = true then (some true) else ((sequentref04_TypeOp.f k l0_0 l0_1 a1_1).bind fun bt1037 => (if bt1037.2 = true then (sequentref04_OverType.j0 k (bt1037.1 != (l1_2.length : Int)) l0_0 l0_1 a1_0 a1_1 l1_2) else (sequentref04_OverType.j0 k true l0_0 l0_1 a1_0 a1_1 l1_2)))
end
def sequentref04_OverType.T9 : Bool × List (List Nat × List Nat) := (true, [([], []), ([], []), ([1], [1]), ([], []), ([2, 3], [2, 3]), ([4], [4]), ([0, 5], [0, 5]), ([6], [6])])
def sequentref04_OverType.B9 : List Nat := [0, 0, 2, 0, 14, 30, 63, 127]
theorem sequentref04_OverType.tab9 : rtab .any (opsOf Try.f151 9) = sequentref04_OverType.T9 := by kernel_rfl
theorem sequentref04_OverType.bits9 : waitsOk sequentref04_OverType.T9.2 sequentref04_OverType.B9 = true := by kernel_rfl
set_option maxHeartbeats 8000000 in
set_option maxRecDepth 100000 in
theorem sequentref04_OverType.calls (k : Nat) : ∀ (A0_0 : Option Addr) (c0_0 : Nat) (l0_0 : List (S106)) (A0_1 : Option Addr) (c0_1 : Nat) (l0_1 : List (S108)) (a1_0 : Bool) (a1_1 : ByteArray) (A1_2 : Option Addr) (c1_2 : Nat) (l1_2 : List (S24)) (r : Bool) (w : World) (hr0_0 : Kd.C k106 w A0_0 l0_0.length l0_0) (hc0_0 : l0_0.length ≤ c0_0) (hr0_1 : Kd.C k108 w A0_1 l0_1.length l0_1) (hc0_1 : l0_1.length ≤ c0_1) (hr1_2 : Kd.C k24 w A1_2 l1_2.length l1_2) (hc1_2 : l1_2.length ≤ c1_2) (h : sequentref04_OverType.f k l0_0 l0_1 a1_0 a1_1 l1_2 = some r),
 Calls Try.prog 151 #[.agg #[.slice A0_0 l0_0.length c0_0, .slice A0_1 l0_1.length c0_1], .agg #[.bool a1_0, .string a1_1, .slice A1_2 l1_2.length c1_2]] w fun e w' => e = .returned (.bool r) ∧ Below w.heap.size w w' := by
 induction k using Nat.strongRecOn with
 | _ k ih =>
 intro A0_0 c0_0 l0_0 A0_1 c0_1 l0_1 a1_0 a1_1 A1_2 c1_2 l1_2 r w hr0_0 hc0_0 hr0_1 hc0_1 hr1_2 hc1_2 h
 cases k with
 | zero => exact absurd h (by simp [sequentref04_OverType.f])
 | succ k =>
 simp only [sequentref04_OverType.f] at h
 have hu94 := Try.underlying94
 have hu24 := Try.underlying24
 have HR0_0 := Aside0.mk hr0_0
 have HC0_0 := Aside0.mk hc0_0
 clear hr0_0 hc0_0
 have HR0_1 := Aside0.mk hr0_1
 have HC0_1 := Aside0.mk hc0_1
 clear hr0_1 hc0_1
 have HR1_2 := Aside0.mk hr1_2
 have HC1_2 := Aside0.mk hc1_2
 clear hr1_2 hc1_2
 have HB := Aside0.mk (Below.refl w.heap.size w)
 have H : (if a1_0 = true then (some true) else ((sequentref04_TypeOp.f k l0_0 l0_1 a1_1).bind fun bt1037 => (if bt1037.2 = true then (sequentref04_OverType.j0 k (bt1037.1 != (l1_2.length : Int)) l0_0 l0_1 a1_0 a1_1 l1_2) else (sequentref04_OverType.j0 k true l0_0 l0_1 a1_0 a1_1 l1_2)))) = some r := h
 clear h
 by_cases c3 : a1_0 = true
 ·subst c3
  have H1 : (some true) = some r := by rw [if_pos rfl] at H; exact H
  clear H
  have H := H1
  clear H1
  obtain rfl := Option.some.inj H
  go_enter Try.func151, Try.ntmps151
  go_wp2_with (first | ((with_reducible refine gate_dst (N := 2) rfl ?_); (try (refine gate_guard (by rfl) ?_; dsimp only)); refine box_event ?hg (N := 2) ?hd (cs := #[.slice A0_0 l0_0.length c0_0, .slice A0_1 l0_1.length c0_1]) (t := 94) ?hr ?_; (case hd => rfl); (case hg => rfl); (case hr => first | (go_simp; done) | (go_simp; rfl)); intro gb1035 hg w4 hbox hb; have n0_ := Aside0.mk (below_step bel_ hb); have n1_ := Aside0.mk (hbox); have n2_ := Aside0.mk ((by rw [hg]; exact (below_size bel_) : w.heap.size ≤ gb1035)); have n3_ := Aside0.mk ((by rw [hg]; exact (below_size bel_) : w.heap.size ≤ gb1035)); clear HB; have HB := n0_; have BK1035 := n1_; have GW1035 := n2_; have GE1035 := n3_; clear n0_ n1_ n2_ n3_; clear hb hbox hg) | ((with_reducible refine gate_dst (N := 3) rfl ?_); (try (refine gate_guard (by rfl) ?_; dsimp only)); refine box_event ?hg (N := 3) ?hd (cs := #[.bool true, .string a1_1, .slice A1_2 l1_2.length c1_2]) (t := 24) ?hr ?_; (case hd => rfl); (case hg => rfl); (case hr => first | (go_simp; done) | (go_simp; rfl)); intro gb1036 hg w5 hbox hb; have n0_ := Aside0.mk (blk_below (g := gb1035) (o := .cells #[.slice A0_0 l0_0.length c0_0, .slice A0_1 l0_1.length c0_1] 94 (0, 0)) (bk_ BK1035) hb); have n1_ := Aside0.mk (below_step bel_ hb); have n2_ := Aside0.mk (hbox); have n3_ := Aside0.mk ((by rw [hg]; exact (below_size bel_) : w.heap.size ≤ gb1036)); have n4_ := Aside0.mk ((by rw [hg]; exact (below_size bel_) : w.heap.size ≤ gb1036)); have n5_ := Aside0.mk ((by rw [hg]; exact Nat.ne_of_lt (blk_lt (g := gb1035) (o := .cells #[.slice A0_0 l0_0.length c0_0, .slice A0_1 l0_1.length c0_1] 94 (0, 0)) (bk_ BK1035)) : gb1035 ≠ gb1036)); have n6_ := Aside0.mk ((by rw [hg]; exact Nat.ne_of_gt (blk_lt (g := gb1035) (o := .cells #[.slice A0_0 l0_0.length c0_0, .slice A0_1 l0_1.length c0_1] 94 (0, 0)) (bk_ BK1035)) : gb1036 ≠ gb1035)); clear BK1035; clear HB; have BK1035 := n0_; have HB := n1_; have BK1036 := n2_; have GW1036 := n3_; have GE1036 := n4_; have NB1035_1036 := n5_; have NB1036_1035 := n6_; clear n0_ n1_ n2_ n3_ n4_ n5_ n6_; clear hb hbox hg; have hnb6 := NB1036_1035.out; have hnc6 := NB1035_1036.out; have hcz7_0 : w5.cell? ⟨gb1036, 0, none⟩ = some (.bool true) := (blk_cell BK1036.out 0).trans rfl; have hcz7_1 : w5.cell? ⟨gb1036, 1, none⟩ = some (.string a1_1) := (blk_cell BK1036.out 1).trans rfl; have hcz7_2 : w5.cell? ⟨gb1036, 2, none⟩ = some (.slice A1_2 l1_2.length c1_2) := (blk_cell BK1036.out 2).trans rfl; have hfz7_0 := blk_frozen BK1036.out 0; have hfz7_1 := blk_frozen BK1036.out 1; have hfz7_2 := blk_frozen BK1036.out 2))
  go_ret
  exact ⟨by first | rfl | (simp [errW_none, errW_some] <;> rfl) | (simp [*, errW_none, errW_some] <;> rfl), bel_⟩
 ·replace c3 := Bool.eq_false_iff.mpr c3
  subst c3
  have H1 : ((sequentref04_TypeOp.f k l0_0 l0_1 a1_1).bind fun bt1037 => (if bt1037.2 = true then (sequentref04_OverType.j0 k (bt1037.1 != (l1_2.length : Int)) l0_0 l0_1 false a1_1 l1_2) else (sequentref04_OverType.j0 k true l0_0 l0_1 false a1_1 l1_2))) = some r := by rw [if_neg (show ¬ (false = true) by decide)] at H; exact H
  clear H
  have H := H1
  clear H1
  replace H := Option.bind_eq_some_iff.mp H
  obtain ⟨⟨t1037, t1038⟩, A80, H⟩ := H
  replace H : (if t1038 = true then (sequentref04_OverType.j0 k (t1037 != (l1_2.length : Int)) l0_0 l0_1 false a1_1 l1_2) else (sequentref04_OverType.j0 k true l0_0 l0_1 false a1_1 l1_2)) = some r := H
  have A8 := Aside0.mk A80
  clear A80
  have HC9 := Aside0.mk H
  clear H
  go_enter Try.func151, Try.ntmps151
  go_upto_region 4 with (first | ((with_reducible refine gate_dst (N := 2) rfl ?_); (try (refine gate_guard (by rfl) ?_; dsimp only)); refine box_event ?hg (N := 2) ?hd (cs := #[.slice A0_0 l0_0.length c0_0, .slice A0_1 l0_1.length c0_1]) (t := 94) ?hr ?_; (case hd => rfl); (case hg => rfl); (case hr => first | (go_simp; done) | (go_simp; rfl)); intro gb1035 hg w10 hbox hb; have n0_ := Aside0.mk (below_step bel_ hb); have n1_ := Aside0.mk (hbox); have n2_ := Aside0.mk ((by rw [hg]; exact (below_size bel_) : w.heap.size ≤ gb1035)); have n3_ := Aside0.mk ((by rw [hg]; exact (below_size bel_) : w.heap.size ≤ gb1035)); clear HB; have HB := n0_; have BK1035 := n1_; have GW1035 := n2_; have GE1035 := n3_; clear n0_ n1_ n2_ n3_; clear hb hbox hg) | ((with_reducible refine gate_dst (N := 3) rfl ?_); (try (refine gate_guard (by rfl) ?_; dsimp only)); refine box_event ?hg (N := 3) ?hd (cs := #[.bool false, .string a1_1, .slice A1_2 l1_2.length c1_2]) (t := 24) ?hr ?_; (case hd => rfl); (case hg => rfl); (case hr => first | (go_simp; done) | (go_simp; rfl)); intro gb1036 hg w11 hbox hb; have n0_ := Aside0.mk (blk_below (g := gb1035) (o := .cells #[.slice A0_0 l0_0.length c0_0, .slice A0_1 l0_1.length c0_1] 94 (0, 0)) (bk_ BK1035) hb); have n1_ := Aside0.mk (below_step bel_ hb); have n2_ := Aside0.mk (hbox); have n3_ := Aside0.mk ((by rw [hg]; exact (below_size bel_) : w.heap.size ≤ gb1036)); have n4_ := Aside0.mk ((by rw [hg]; exact (below_size bel_) : w.heap.size ≤ gb1036)); have n5_ := Aside0.mk ((by rw [hg]; exact Nat.ne_of_lt (blk_lt (g := gb1035) (o := .cells #[.slice A0_0 l0_0.length c0_0, .slice A0_1 l0_1.length c0_1] 94 (0, 0)) (bk_ BK1035)) : gb1035 ≠ gb1036)); have n6_ := Aside0.mk ((by rw [hg]; exact Nat.ne_of_gt (blk_lt (g := gb1035) (o := .cells #[.slice A0_0 l0_0.length c0_0, .slice A0_1 l0_1.length c0_1] 94 (0, 0)) (bk_ BK1035)) : gb1036 ≠ gb1035)); clear BK1035; clear HB; have BK1035 := n0_; have HB := n1_; have BK1036 := n2_; have GW1036 := n3_; have GE1036 := n4_; have NB1035_1036 := n5_; have NB1036_1035 := n6_; clear n0_ n1_ n2_ n3_ n4_ n5_ n6_; clear hb hbox hg; have hnb12 := NB1036_1035.out; have hnc12 := NB1035_1036.out; have hcz13_0 : w11.cell? ⟨gb1036, 0, none⟩ = some (.bool false) := (blk_cell BK1036.out 0).trans rfl; have hcz13_1 : w11.cell? ⟨gb1036, 1, none⟩ = some (.string a1_1) := (blk_cell BK1036.out 1).trans rfl; have hcz13_2 : w11.cell? ⟨gb1036, 2, none⟩ = some (.slice A1_2 l1_2.length c1_2) := (blk_cell BK1036.out 2).trans rfl; have hfz13_0 := blk_frozen BK1036.out 0; have hfz13_1 := blk_frozen BK1036.out 1; have hfz13_2 := blk_frozen BK1036.out 2; have hcz14_0 : w11.cell? ⟨gb1035, 0, none⟩ = some (.slice A0_0 l0_0.length c0_0) := (blk_cell BK1035.out 0).trans rfl; have hcz14_1 : w11.cell? ⟨gb1035, 1, none⟩ = some (.slice A0_1 l0_1.length c0_1) := (blk_cell BK1035.out 1).trans rfl; have hfz14_0 := blk_frozen BK1035.out 0; have hfz14_1 := blk_frozen BK1035.out 1) | ((with_reducible refine gate_callee (f := 72) rfl ?_); refine goesL_ (some 14) rfl rfl Try.func72 (by kernel_rfl) rfl #[.agg #[.slice A0_0 l0_0.length c0_0, .slice A0_1 l0_1.length c0_1], .string a1_1] rfl (by (try simp only [List.map_toArray, List.map_cons, List.map_nil]); first | done | rfl | (simp only [List.length_drop, List.length_take]; rfl)) ?_; (with_reducible refine (sequentref04_TypeOp.calls k _ _ l0_0 _ _ l0_1 a1_1 t1037 t1038 _ ?side1 ?side2 ?side3 ?side4 A8.out).mono ?_); (case side1 => repeat (first | exact (Kd.C_below HR0_0.out HB.out) | (with_reducible refine Kd.C_alloc ?_ _) | (with_reducible refine Kd.C_drewN ?_ _) | (with_reducible refine Kd.C_drew ?_))); (case side2 => exact HC0_0.out); (case side3 => repeat (first | exact (Kd.C_below HR0_1.out HB.out) | (with_reducible refine Kd.C_alloc ?_ _) | (with_reducible refine Kd.C_drewN ?_ _) | (with_reducible refine Kd.C_drew ?_))); (case side4 => exact HC0_1.out); rintro e w15 ⟨rfl, hb⟩; refine ⟨_, rfl, ?_⟩; have n0_ := Aside0.mk (blk_below (g := gb1035) (o := .cells #[.slice A0_0 l0_0.length c0_0, .slice A0_1 l0_1.length c0_1] 94 (0, 0)) (bk_ BK1035) hb); have n1_ := Aside0.mk (blk_below (g := gb1036) (o := .cells #[.bool false, .string a1_1, .slice A1_2 l1_2.length c1_2] 24 (0, 0)) (bk_ BK1036) hb); have n2_ := Aside0.mk (below_step bel_ hb); clear BK1035; clear BK1036; clear HB; have BK1035 := n0_; have BK1036 := n1_; have HB := n2_; clear n0_ n1_ n2_; (try clear hb); (try clear hb2); (try clear hk); (try clear hi)))
  (try simp only [Act.put, List.setIfInBounds_toArray, List.set_cons_zero, List.set_cons_succ])
  go_cut [25] (fun v25 wc => ∃ (kq : Nat) (x25_8 : Bool), v25 = .bool x25_8 ∧ Aside0 (sequentref04_OverType.j0 kq x25_8 l0_0 l0_1 false a1_1 l1_2 = some r) ∧ Aside0 (kq ≤ k) ∧ Aside0 (wc.heap[gb1035]? = some (.cells #[(.slice A0_0 l0_0.length c0_0), (.slice A0_1 l0_1.length c0_1)] 94 (0, 0))) ∧ Aside0 (wc.heap[gb1036]? = some (.cells #[.bool false, .string a1_1, (.slice A1_2 l1_2.length c1_2)] 24 (0, 0))) ∧ Aside0 (Below w.heap.size w wc))
  case first =>
   have H := HC9.out
   clear HC9
   by_cases c16 : t1038 = true
   ·subst c16
    have H1 : (sequentref04_OverType.j0 k (t1037 != (l1_2.length : Int)) l0_0 l0_1 false a1_1 l1_2) = some r := by rw [if_pos rfl] at H; exact H
    clear H
    have H := H1
    clear H1
    have H' := Aside0.mk H
    clear H
    have hnb17 := NB1036_1035.out
    have hnc17 := NB1035_1036.out
    have hcz18_0 : w15.cell? ⟨gb1036, 0, none⟩ = some (.bool false) := (blk_cell BK1036.out 0).trans rfl
    have hcz18_1 : w15.cell? ⟨gb1036, 1, none⟩ = some (.string a1_1) := (blk_cell BK1036.out 1).trans rfl
    have hcz18_2 : w15.cell? ⟨gb1036, 2, none⟩ = some (.slice A1_2 l1_2.length c1_2) := (blk_cell BK1036.out 2).trans rfl
    have hfz18_0 := blk_frozen BK1036.out 0
    have hfz18_1 := blk_frozen BK1036.out 1
    have hfz18_2 := blk_frozen BK1036.out 2
    go_wp2
    go_meet
    case rel => exact ⟨_, ((t1037 != (l1_2.length : Int))), (by first | rfl | (simp; done) | (simp [*]; done)), H', ⟨by first | omega | exact Nat.le_refl _⟩, ⟨bk_ BK1035⟩, ⟨bk_ BK1036⟩, ⟨bel_⟩⟩
   ·replace c16 := Bool.eq_false_iff.mpr c16
    subst c16
    have H1 : (sequentref04_OverType.j0 k true l0_0 l0_1 false a1_1 l1_2) = some r := by rw [if_neg (show ¬ (false = true) by decide)] at H; exact H
    clear H
    have H := H1
    clear H1
    have H' := Aside0.mk H
    clear H
    go_wp2
    go_meet
    case rel => exact ⟨_, (true), (by first | rfl | (simp; done) | (simp [*]; done)), H', ⟨by first | omega | exact Nat.le_refl _⟩, ⟨bk_ BK1035⟩, ⟨bk_ BK1036⟩, ⟨bel_⟩⟩
  case rest =>
   clear HC9
   try clear c1
   try clear p2
   try clear c3
   try clear c6
   try clear c7
   try clear c12
   try clear c15
   try clear c16
   try clear c17
   try clear hcz13_0
   try clear hcz13_1
   try clear hcz13_2
   try clear hcz14_0
   try clear hcz14_1
   try clear hcz18_0
   try clear hcz18_1
   try clear hcz18_2
   try clear hcz7_0
   try clear hcz7_1
   try clear hcz7_2
   try clear hfz13_0
   try clear hfz13_1
   try clear hfz13_2
   try clear hfz14_0
   try clear hfz14_1
   try clear hfz18_0
   try clear hfz18_1
   try clear hfz18_2
   try clear hfz7_0
   try clear hfz7_1
   try clear hfz7_2
   obtain ⟨kq, x25_8, rfl, HA, HJ8, BK1035, BK1036, HB⟩ := hcut
   cases kq with
   | zero => exact absurd HA.out (by simp [sequentref04_OverType.j0])
   | succ kj8 =>
    have H := HA.out
    clear HA
    simp only [sequentref04_OverType.j0] at H
    by_cases c19 : x25_8 = true
    ·subst c19
     have H1 : (some false) = some r := by rw [if_pos rfl] at H; exact H
     clear H
     have H := H1
     clear H1
     obtain rfl := Option.some.inj H
     go_wp2
     go_ret
     exact ⟨by first | rfl | (simp [errW_none, errW_some] <;> rfl) | (simp [*, errW_none, errW_some] <;> rfl), bel_⟩
    ·replace c19 := Bool.eq_false_iff.mpr c19
     subst c19
     have H1 : (sequentref04_OverType.l0 kj8 0 l0_0 l0_1 false a1_1 l1_2) = some r := by rw [if_neg (show ¬ (false = true) by decide)] at H; exact H
     clear H
     have H := H1
     clear H1
     have H' := Aside0.mk H
     clear H
     go_wp2
     go_loopg [7] kj8 (fun kq v7 w' => ∃ (x7_2 : Int), v7 = .int .i64 x7_2 ∧ Aside0 (sequentref04_OverType.l0 kq x7_2 l0_0 l0_1 false a1_1 l1_2 = some r) ∧ Aside0 (kq ≤ kj8) ∧ Aside0 (w'.heap[gb1035]? = some (.cells #[(.slice A0_0 l0_0.length c0_0), (.slice A0_1 l0_1.length c0_1)] 94 (0, 0))) ∧ Aside0 (w'.heap[gb1036]? = some (.cells #[.bool false, .string a1_1, (.slice A1_2 l1_2.length c1_2)] 24 (0, 0))) ∧ Aside0 (Below w.heap.size w w'))
     case atStart => exact ⟨(0), (by first | rfl | (simp; done) | (simp [*]; done)), H', ⟨Nat.le_refl _⟩, ⟨bk_ BK1035⟩, ⟨bk_ BK1036⟩, ⟨bel_⟩⟩
     case round =>
      clear H'
      try clear c1
      try clear p2
      try clear c3
      try clear c6
      try clear c7
      try clear c12
      try clear c15
      try clear c16
      try clear c17
      try clear c19
      try clear hcz13_0
      try clear hcz13_1
      try clear hcz13_2
      try clear hcz14_0
      try clear hcz14_1
      try clear hcz18_0
      try clear hcz18_1
      try clear hcz18_2
      try clear hcz7_0
      try clear hcz7_1
      try clear hcz7_2
      try clear hfz13_0
      try clear hfz13_1
      try clear hfz13_2
      try clear hfz14_0
      try clear hfz14_1
      try clear hfz18_0
      try clear hfz18_1
      try clear hfz18_2
      try clear hfz7_0
      try clear hfz7_1
      try clear hfz7_2
      try clear p2
      obtain ⟨x7_2, rfl, HA, HK2, BK1035, BK1036, HB⟩ := hrel
      cases gk with
      | zero => exact absurd HA.out (by simp [sequentref04_OverType.l0])
      | succ k2 =>
       have H := HA.out
       clear HA
       simp only [sequentref04_OverType.l0] at H
       by_cases c20 : x7_2 < (l1_2.length : Int)
       ·rw [if_pos c20] at H
        have c20b0 : decide (x7_2 < (l1_2.length : Int)) = true := decide_eq_true c20
        clear c20
        by_cases c21 : 0 ≤ x7_2
        ·rw [if_pos c21] at H
         have c21b0 : decide (0 ≤ x7_2) = true := decide_eq_true c21
         clear c21
         replace H := Option.bind_eq_some_iff.mp H
         obtain ⟨t1040, A220, H⟩ := H
         replace H : (if t1040 = true then (sequentref04_OverType.l0 k2 (wrap64 (x7_2 + 1)) l0_0 l0_1 false a1_1 l1_2) else (some false)) = some r := H
         have A22 := Aside0.mk A220
         clear A220
         by_cases c23 : t1040 = true
         ·subst c23
          have H1 : (sequentref04_OverType.l0 k2 (wrap64 (x7_2 + 1)) l0_0 l0_1 false a1_1 l1_2) = some r := by rw [if_pos rfl] at H; exact H
          clear H
          have H := H1
          clear H1
          have H' := Aside0.mk H
          clear H
          have hnb24 := NB1036_1035.out
          have hnc24 := NB1035_1036.out
          have hcz25_0 : wr.cell? ⟨gb1036, 0, none⟩ = some (.bool false) := (blk_cell BK1036.out 0).trans rfl
          have hcz25_1 : wr.cell? ⟨gb1036, 1, none⟩ = some (.string a1_1) := (blk_cell BK1036.out 1).trans rfl
          have hcz25_2 : wr.cell? ⟨gb1036, 2, none⟩ = some (.slice A1_2 l1_2.length c1_2) := (blk_cell BK1036.out 2).trans rfl
          have hfz25_0 := blk_frozen BK1036.out 0
          have hfz25_1 := blk_frozen BK1036.out 1
          have hfz25_2 := blk_frozen BK1036.out 2
          try go_wp2
          have n0_ := Aside0.mk (blk_drew BK1035.out)
          have n1_ := Aside0.mk (blk_drew BK1036.out)
          have n2_ := Aside0.mk (below_drew1 HB.out)
          clear BK1035
          clear BK1036
          clear HB
          have BK1035 := n0_
          have BK1036 := n1_
          have HB := n2_
          clear n0_ n1_ n2_
          have p1039 : 0 ≤ (x7_2 : Int) := dq_
          have q1039 : x7_2 < (l1_2.length : Int) := dq_
          obtain ⟨ad1039, A1039_2, c1039_2, e1039, hx1039_0, hx1039_1, hx1039_2, hl1039_2, hi1039_2⟩ := at_T24 HR1_2.out x7_2 p1039 q1039
          have hw1039_2 := hx1039_2
          have hw1039_1 := hx1039_1
          have hw1039_0 := hx1039_0
          cases e1039
          replace hx1039_0 := pw_cell_below HB.out hx1039_0
          replace hx1039_1 := pw_cell_below HB.out hx1039_1
          replace hx1039_2 := pw_cell_below HB.out hx1039_2
          have HR1039_2 := Aside0.mk hi1039_2
          have HC1039_2 := Aside0.mk hl1039_2
          clear hi1039_2 hl1039_2
          replace p1039 := eq_true p1039
          replace q1039 := eq_true q1039
          refine start_ (n := 8) (S := fun w' => w'.cell? ⟨gb1035, 0, none⟩ = some (.slice A0_0 l0_0.length c0_0) ∧ w'.cell? ⟨gb1035, 1, none⟩ = some (.slice A0_1 l0_1.length c0_1) ∧ w'.cell? ⟨gb1036, 0, none⟩ = some (.bool false) ∧ w'.cell? ⟨gb1036, 1, none⟩ = some (.string a1_1) ∧ w'.cell? ⟨gb1036, 2, none⟩ = some (.slice (some ad1039) l1_2.length c1_2) ∧ w'.cell? (ad1039.add ((x7_2).toNat * 3)) = some (.bool ((rd_T24 l1_2 x7_2).f0)) ∧ w'.cell? ⟨(ad1039.add ((x7_2).toNat * 3)).block, (ad1039.add ((x7_2).toNat * 3)).off + 1, none⟩ = some (.string ((rd_T24 l1_2 x7_2).f1)) ∧ w'.cell? ⟨(ad1039.add ((x7_2).toNat * 3)).block, (ad1039.add ((x7_2).toNat * 3)).off + 2, none⟩ = some (.slice A1039_2 ((rd_T24 l1_2 x7_2).f2).length c1039_2)) (ds := []) #[false, false, false, false, false, false, false, false] (by kernel_rfl) rfl rfl ⟨(blk_cell BK1035.out 0).trans rfl, (blk_cell BK1035.out 1).trans rfl, (blk_cell BK1036.out 0).trans rfl, (blk_cell BK1036.out 1).trans rfl, (blk_cell BK1036.out 2).trans rfl, (pw_cell_below HB.out hw1039_0), (pw_cell_below HB.out hw1039_1), (pw_cell_below HB.out hw1039_2)⟩ (fun hHeld => ?_); refine with_tabW sequentref04_OverType.tab9 sequentref04_OverType.bits9 (fun HT_ HW_ => ?_)
          generalize wr.drew = w26 at BK1035 BK1036 HB HR1039_2 hx1039_0 hx1039_1 hx1039_2 hHeld ⊢
          refine pure_ (i := 1) (N := some 34) (v := ?_) (a' := ?_) #[false, true, false, false, false, false, false, false] rfl rfl (any_of HT_.out (by kernel_rfl)) (fun _ _ _ h => h) (Or.inl ⟨by rfl, ?_⟩) ?_ ?_
          rotate_left
          ·intro w'
           go_simp
           with_reducible rfl
          rotate_left
          ·simp only [Act.put, List.setIfInBounds_toArray, List.set_cons_zero, List.set_cons_succ, i64_w, i32_w]
           rfl
          refine pure_ (i := 3) (N := some 36) (v := ?_) (a' := ?_) #[false, true, false, true, false, false, false, false] rfl rfl (any_of HT_.out (by kernel_rfl)) (fun _ _ _ h => h) (Or.inl ⟨by rfl, ?_⟩) ?_ ?_
          rotate_left
          ·intro w'
           go_simp
           with_reducible rfl
          rotate_left
          ·simp only [Act.put, List.setIfInBounds_toArray, List.set_cons_zero, List.set_cons_succ, i64_w, i32_w]
           rfl
          refine take_ (i := 0) (N := some 33) (v := ?_) (a' := ?_) #[true, true, false, true, false, false, false, false] rfl rfl (take_ofW HT_.out HW_.out (by kernel_rfl)) (fun _ _ _ h => h) (Or.inl ⟨by rfl, ?_⟩) hHeld ?_ ?_
          rotate_left
          ·rintro w' ⟨s0, s1, s2, s3, s4, s5, s6, s7⟩
           go_simp
           with_reducible rfl
          rotate_left
          ·simp only [Act.put, List.setIfInBounds_toArray, List.set_cons_zero, List.set_cons_succ, i64_w, i32_w]
           rfl
          refine take_ (i := 2) (N := some 35) (v := ?_) (a' := ?_) #[true, true, true, true, false, false, false, false] rfl rfl (take_ofW HT_.out HW_.out (by kernel_rfl)) (fun _ _ _ h => h) (Or.inl ⟨by rfl, ?_⟩) hHeld ?_ ?_
          rotate_left
          ·rintro w' ⟨s0, s1, s2, s3, s4, s5, s6, s7⟩
           go_simp
           with_reducible rfl
          rotate_left
          ·simp only [Act.put, List.setIfInBounds_toArray, List.set_cons_zero, List.set_cons_succ, i64_w, i32_w]
           rfl
          refine pure_ (i := 4) (N := some 37) (v := ?_) (a' := ?_) #[true, true, true, true, true, false, false, false] rfl rfl (any_of HT_.out (by kernel_rfl)) (fun _ _ _ h => h) (Or.inl ⟨by rfl, ?_⟩) ?_ ?_
          rotate_left
          ·intro w'
           go_simp
           with_reducible rfl
          rotate_left
          ·simp only [Act.put, List.setIfInBounds_toArray, List.set_cons_zero, List.set_cons_succ, i64_w, i32_w]
           rfl
          refine take_ (i := 5) (N := some 38) (v := ?_) (a' := ?_) #[true, true, true, true, true, true, false, false] rfl rfl (take_ofW HT_.out HW_.out (by kernel_rfl)) (fun _ _ _ h => h) (Or.inl ⟨by rfl, ?_⟩) hHeld ?_ ?_
          rotate_left
          ·rintro w' ⟨s0, s1, s2, s3, s4, s5, s6, s7⟩
           go_simp
           with_reducible rfl
          rotate_left
          ·simp only [Act.put, List.setIfInBounds_toArray, List.set_cons_zero, List.set_cons_succ, i64_w, i32_w]
           rfl
          refine one_ (i := 6) (N := some 39) #[true, true, true, true, true, true, true, false] rfl rfl (one_of HT_.out (by kernel_rfl)) (by decide) (fun K hK => ?_)
          refine goes_ Try.func151 (by kernel_rfl) rfl #[.agg #[.slice A0_0 l0_0.length c0_0, .slice A0_1 l0_1.length c0_1], .agg #[.bool ((rd_T24 l1_2 x7_2).f0), .string ((rd_T24 l1_2 x7_2).f1), .slice A1039_2 ((rd_T24 l1_2 x7_2).f2).length c1039_2]] (by rfl) rfl rfl (by (try simp only [List.map_toArray, List.map_cons, List.map_nil]); first | done | rfl | (simp only [List.length_drop, List.length_take]; rfl)) ?_
          with_reducible refine (ih k2 (by have := HJ8.out; have := HK2.out; omega) _ _ l0_0 _ _ l0_1 ((rd_T24 l1_2 x7_2).f0) ((rd_T24 l1_2 x7_2).f1) _ _ ((rd_T24 l1_2 x7_2).f2) true _ ?side1 ?side2 ?side3 ?side4 ?side5 ?side6 A22.out).mono ?_
          (case side1 => repeat (first | exact (Kd.C_below HR0_0.out HB.out) | (with_reducible refine Kd.C_alloc ?_ _) | (with_reducible refine Kd.C_drewN ?_ _) | (with_reducible refine Kd.C_drew ?_)))
          (case side2 => exact HC0_0.out)
          (case side3 => repeat (first | exact (Kd.C_below HR0_1.out HB.out) | (with_reducible refine Kd.C_alloc ?_ _) | (with_reducible refine Kd.C_drewN ?_ _) | (with_reducible refine Kd.C_drew ?_)))
          (case side4 => exact HC0_1.out)
          (case side5 => repeat (first | exact (Kd.C_below HR1039_2.out HB.out) | (with_reducible refine Kd.C_alloc ?_ _) | (with_reducible refine Kd.C_drewN ?_ _) | (with_reducible refine Kd.C_drew ?_)))
          (case side6 => exact HC1039_2.out)
          rintro e w27 ⟨rfl, hb⟩
          refine ⟨_, rfl, ?_⟩
          have n0_ := Aside0.mk (blk_below (g := gb1035) (o := .cells #[.slice A0_0 l0_0.length c0_0, .slice A0_1 l0_1.length c0_1] 94 (0, 0)) (bk_ BK1035) hb)
          have n1_ := Aside0.mk (blk_below (g := gb1036) (o := .cells #[.bool false, .string a1_1, .slice (some ad1039) l1_2.length c1_2] 24 (0, 0)) (bk_ BK1036) hb)
          have n2_ := Aside0.mk (below_step bel_ hb)
          clear BK1035
          clear BK1036
          clear HB
          have BK1035 := n0_
          have BK1036 := n1_
          have HB := n2_
          clear n0_ n1_ n2_
          (try clear hb)
          (try clear hb2)
          (try clear hk)
          (try clear hi)
          refine hK.out _ _ ⟨(blk_cell BK1035.out 0).trans rfl, (blk_cell BK1035.out 1).trans rfl, (blk_cell BK1036.out 0).trans rfl, (blk_cell BK1036.out 1).trans rfl, (blk_cell BK1036.out 2).trans rfl, (pw_cell_below HB.out hw1039_0), (pw_cell_below HB.out hw1039_1), (pw_cell_below HB.out hw1039_2)⟩ (fun hHeld => ?_)
          clear hK K
          refine norm_ (a' := ?_) ?_ ?_
          rotate_left
          ·show Act.put _ (some 39) _ = _
           simp only [Act.put, List.setIfInBounds_toArray, List.set_cons_zero, List.set_cons_succ, i64_w, i32_w]
           rfl
          refine pure_ (i := 7) (N := some 40) (v := ?_) (a' := ?_) #[true, true, true, true, true, true, true, true] rfl rfl (any_of HT_.out (by kernel_rfl)) (fun _ _ _ h => h) (Or.inl ⟨by rfl, ?_⟩) ?_ ?_
          rotate_left
          ·intro w'
           go_simp
           with_reducible rfl
          rotate_left
          ·simp only [Act.put, List.setIfInBounds_toArray, List.set_cons_zero, List.set_cons_succ, i64_w, i32_w]
           rfl
          refine done_ (done_of HT_.out (by kernel_rfl)) ?_
          try go_wp2
          go_roundg k2
          case measure => have := HJ8.out; have := HK2.out; omega
          case rel => exact ⟨(wrap64 (x7_2 + 1)), (by first | rfl | (simp; done) | (simp [*]; done)), H', ⟨by have := HJ8.out; have := HK2.out; omega⟩, ⟨bk_ BK1035⟩, ⟨bk_ BK1036⟩, ⟨bel_⟩⟩
         ·replace c23 := Bool.eq_false_iff.mpr c23
          subst c23
          have H1 : (some false) = some r := by rw [if_neg (show ¬ (false = true) by decide)] at H; exact H
          clear H
          have H := H1
          clear H1
          obtain rfl := Option.some.inj H
          have hnb28 := NB1036_1035.out
          have hnc28 := NB1035_1036.out
          have hcz29_0 : wr.cell? ⟨gb1036, 0, none⟩ = some (.bool false) := (blk_cell BK1036.out 0).trans rfl
          have hcz29_1 : wr.cell? ⟨gb1036, 1, none⟩ = some (.string a1_1) := (blk_cell BK1036.out 1).trans rfl
          have hcz29_2 : wr.cell? ⟨gb1036, 2, none⟩ = some (.slice A1_2 l1_2.length c1_2) := (blk_cell BK1036.out 2).trans rfl
          have hfz29_0 := blk_frozen BK1036.out 0
          have hfz29_1 := blk_frozen BK1036.out 1
          have hfz29_2 := blk_frozen BK1036.out 2
          try go_wp2
          have n0_ := Aside0.mk (blk_drew BK1035.out)
          have n1_ := Aside0.mk (blk_drew BK1036.out)
          have n2_ := Aside0.mk (below_drew1 HB.out)
          clear BK1035
          clear BK1036
          clear HB
          have BK1035 := n0_
          have BK1036 := n1_
          have HB := n2_
          clear n0_ n1_ n2_
          have p1039 : 0 ≤ (x7_2 : Int) := dq_
          have q1039 : x7_2 < (l1_2.length : Int) := dq_
          obtain ⟨ad1039, A1039_2, c1039_2, e1039, hx1039_0, hx1039_1, hx1039_2, hl1039_2, hi1039_2⟩ := at_T24 HR1_2.out x7_2 p1039 q1039
          have hw1039_2 := hx1039_2
          have hw1039_1 := hx1039_1
          have hw1039_0 := hx1039_0
          cases e1039
          replace hx1039_0 := pw_cell_below HB.out hx1039_0
          replace hx1039_1 := pw_cell_below HB.out hx1039_1
          replace hx1039_2 := pw_cell_below HB.out hx1039_2
          have HR1039_2 := Aside0.mk hi1039_2
          have HC1039_2 := Aside0.mk hl1039_2
          clear hi1039_2 hl1039_2
          replace p1039 := eq_true p1039
          replace q1039 := eq_true q1039
          refine start_ (n := 8) (S := fun w' => w'.cell? ⟨gb1035, 0, none⟩ = some (.slice A0_0 l0_0.length c0_0) ∧ w'.cell? ⟨gb1035, 1, none⟩ = some (.slice A0_1 l0_1.length c0_1) ∧ w'.cell? ⟨gb1036, 0, none⟩ = some (.bool false) ∧ w'.cell? ⟨gb1036, 1, none⟩ = some (.string a1_1) ∧ w'.cell? ⟨gb1036, 2, none⟩ = some (.slice (some ad1039) l1_2.length c1_2) ∧ w'.cell? (ad1039.add ((x7_2).toNat * 3)) = some (.bool ((rd_T24 l1_2 x7_2).f0)) ∧ w'.cell? ⟨(ad1039.add ((x7_2).toNat * 3)).block, (ad1039.add ((x7_2).toNat * 3)).off + 1, none⟩ = some (.string ((rd_T24 l1_2 x7_2).f1)) ∧ w'.cell? ⟨(ad1039.add ((x7_2).toNat * 3)).block, (ad1039.add ((x7_2).toNat * 3)).off + 2, none⟩ = some (.slice A1039_2 ((rd_T24 l1_2 x7_2).f2).length c1039_2)) (ds := []) #[false, false, false, false, false, false, false, false] (by kernel_rfl) rfl rfl ⟨(blk_cell BK1035.out 0).trans rfl, (blk_cell BK1035.out 1).trans rfl, (blk_cell BK1036.out 0).trans rfl, (blk_cell BK1036.out 1).trans rfl, (blk_cell BK1036.out 2).trans rfl, (pw_cell_below HB.out hw1039_0), (pw_cell_below HB.out hw1039_1), (pw_cell_below HB.out hw1039_2)⟩ (fun hHeld => ?_); refine with_tabW sequentref04_OverType.tab9 sequentref04_OverType.bits9 (fun HT_ HW_ => ?_)
          generalize wr.drew = w30 at BK1035 BK1036 HB HR1039_2 hx1039_0 hx1039_1 hx1039_2 hHeld ⊢
          refine pure_ (i := 1) (N := some 34) (v := ?_) (a' := ?_) #[false, true, false, false, false, false, false, false] rfl rfl (any_of HT_.out (by kernel_rfl)) (fun _ _ _ h => h) (Or.inl ⟨by rfl, ?_⟩) ?_ ?_
          rotate_left
          ·intro w'
           go_simp
           with_reducible rfl
          rotate_left
          ·simp only [Act.put, List.setIfInBounds_toArray, List.set_cons_zero, List.set_cons_succ, i64_w, i32_w]
           rfl
          refine pure_ (i := 3) (N := some 36) (v := ?_) (a' := ?_) #[false, true, false, true, false, false, false, false] rfl rfl (any_of HT_.out (by kernel_rfl)) (fun _ _ _ h => h) (Or.inl ⟨by rfl, ?_⟩) ?_ ?_
          rotate_left
          ·intro w'
           go_simp
           with_reducible rfl
          rotate_left
          ·simp only [Act.put, List.setIfInBounds_toArray, List.set_cons_zero, List.set_cons_succ, i64_w, i32_w]
           rfl
          refine take_ (i := 0) (N := some 33) (v := ?_) (a' := ?_) #[true, true, false, true, false, false, false, false] rfl rfl (take_ofW HT_.out HW_.out (by kernel_rfl)) (fun _ _ _ h => h) (Or.inl ⟨by rfl, ?_⟩) hHeld ?_ ?_
          rotate_left
          ·rintro w' ⟨s0, s1, s2, s3, s4, s5, s6, s7⟩
           go_simp
           with_reducible rfl
          rotate_left
          ·simp only [Act.put, List.setIfInBounds_toArray, List.set_cons_zero, List.set_cons_succ, i64_w, i32_w]
           rfl
          refine take_ (i := 2) (N := some 35) (v := ?_) (a' := ?_) #[true, true, true, true, false, false, false, false] rfl rfl (take_ofW HT_.out HW_.out (by kernel_rfl)) (fun _ _ _ h => h) (Or.inl ⟨by rfl, ?_⟩) hHeld ?_ ?_
          rotate_left
          ·rintro w' ⟨s0, s1, s2, s3, s4, s5, s6, s7⟩
           go_simp
           with_reducible rfl
          rotate_left
          ·simp only [Act.put, List.setIfInBounds_toArray, List.set_cons_zero, List.set_cons_succ, i64_w, i32_w]
           rfl
          refine pure_ (i := 4) (N := some 37) (v := ?_) (a' := ?_) #[true, true, true, true, true, false, false, false] rfl rfl (any_of HT_.out (by kernel_rfl)) (fun _ _ _ h => h) (Or.inl ⟨by rfl, ?_⟩) ?_ ?_
          rotate_left
          ·intro w'
           go_simp
           with_reducible rfl
          rotate_left
          ·simp only [Act.put, List.setIfInBounds_toArray, List.set_cons_zero, List.set_cons_succ, i64_w, i32_w]
           rfl
          refine take_ (i := 5) (N := some 38) (v := ?_) (a' := ?_) #[true, true, true, true, true, true, false, false] rfl rfl (take_ofW HT_.out HW_.out (by kernel_rfl)) (fun _ _ _ h => h) (Or.inl ⟨by rfl, ?_⟩) hHeld ?_ ?_
          rotate_left
          ·rintro w' ⟨s0, s1, s2, s3, s4, s5, s6, s7⟩
           go_simp
           with_reducible rfl
          rotate_left
          ·simp only [Act.put, List.setIfInBounds_toArray, List.set_cons_zero, List.set_cons_succ, i64_w, i32_w]
           rfl
          refine one_ (i := 6) (N := some 39) #[true, true, true, true, true, true, true, false] rfl rfl (one_of HT_.out (by kernel_rfl)) (by decide) (fun K hK => ?_)
          refine goes_ Try.func151 (by kernel_rfl) rfl #[.agg #[.slice A0_0 l0_0.length c0_0, .slice A0_1 l0_1.length c0_1], .agg #[.bool ((rd_T24 l1_2 x7_2).f0), .string ((rd_T24 l1_2 x7_2).f1), .slice A1039_2 ((rd_T24 l1_2 x7_2).f2).length c1039_2]] (by rfl) rfl rfl (by (try simp only [List.map_toArray, List.map_cons, List.map_nil]); first | done | rfl | (simp only [List.length_drop, List.length_take]; rfl)) ?_
          with_reducible refine (ih k2 (by have := HJ8.out; have := HK2.out; omega) _ _ l0_0 _ _ l0_1 ((rd_T24 l1_2 x7_2).f0) ((rd_T24 l1_2 x7_2).f1) _ _ ((rd_T24 l1_2 x7_2).f2) false _ ?side1 ?side2 ?side3 ?side4 ?side5 ?side6 A22.out).mono ?_
          (case side1 => repeat (first | exact (Kd.C_below HR0_0.out HB.out) | (with_reducible refine Kd.C_alloc ?_ _) | (with_reducible refine Kd.C_drewN ?_ _) | (with_reducible refine Kd.C_drew ?_)))
          (case side2 => exact HC0_0.out)
          (case side3 => repeat (first | exact (Kd.C_below HR0_1.out HB.out) | (with_reducible refine Kd.C_alloc ?_ _) | (with_reducible refine Kd.C_drewN ?_ _) | (with_reducible refine Kd.C_drew ?_)))
          (case side4 => exact HC0_1.out)
          (case side5 => repeat (first | exact (Kd.C_below HR1039_2.out HB.out) | (with_reducible refine Kd.C_alloc ?_ _) | (with_reducible refine Kd.C_drewN ?_ _) | (with_reducible refine Kd.C_drew ?_)))
          (case side6 => exact HC1039_2.out)
          rintro e w31 ⟨rfl, hb⟩
          refine ⟨_, rfl, ?_⟩
          have n0_ := Aside0.mk (blk_below (g := gb1035) (o := .cells #[.slice A0_0 l0_0.length c0_0, .slice A0_1 l0_1.length c0_1] 94 (0, 0)) (bk_ BK1035) hb)
          have n1_ := Aside0.mk (blk_below (g := gb1036) (o := .cells #[.bool false, .string a1_1, .slice (some ad1039) l1_2.length c1_2] 24 (0, 0)) (bk_ BK1036) hb)
          have n2_ := Aside0.mk (below_step bel_ hb)
          clear BK1035
          clear BK1036
          clear HB
          have BK1035 := n0_
          have BK1036 := n1_
          have HB := n2_
          clear n0_ n1_ n2_
          (try clear hb)
          (try clear hb2)
          (try clear hk)
          (try clear hi)
          refine hK.out _ _ ⟨(blk_cell BK1035.out 0).trans rfl, (blk_cell BK1035.out 1).trans rfl, (blk_cell BK1036.out 0).trans rfl, (blk_cell BK1036.out 1).trans rfl, (blk_cell BK1036.out 2).trans rfl, (pw_cell_below HB.out hw1039_0), (pw_cell_below HB.out hw1039_1), (pw_cell_below HB.out hw1039_2)⟩ (fun hHeld => ?_)
          clear hK K
          refine norm_ (a' := ?_) ?_ ?_
          rotate_left
          ·show Act.put _ (some 39) _ = _
           simp only [Act.put, List.setIfInBounds_toArray, List.set_cons_zero, List.set_cons_succ, i64_w, i32_w]
           rfl
          refine pure_ (i := 7) (N := some 40) (v := ?_) (a' := ?_) #[true, true, true, true, true, true, true, true] rfl rfl (any_of HT_.out (by kernel_rfl)) (fun _ _ _ h => h) (Or.inl ⟨by rfl, ?_⟩) ?_ ?_
          rotate_left
          ·intro w'
           go_simp
           with_reducible rfl
          rotate_left
          ·simp only [Act.put, List.setIfInBounds_toArray, List.set_cons_zero, List.set_cons_succ, i64_w, i32_w]
           rfl
          refine done_ (done_of HT_.out (by kernel_rfl)) ?_
          try go_wp2
          go_ret
          exact ⟨by first | rfl | (simp [errW_none, errW_some] <;> rfl) | (simp [*, errW_none, errW_some] <;> rfl), bel_⟩
        ·rw [if_neg c21] at H
         exact absurd H (by simp)
       ·rw [if_neg c20] at H
        have c20b0 : decide (x7_2 < (l1_2.length : Int)) = false := decide_eq_false c20
        clear c20
        obtain rfl := Option.some.inj H
        have hnb32 := NB1036_1035.out
        have hnc32 := NB1035_1036.out
        have hcz33_0 : wr.cell? ⟨gb1036, 0, none⟩ = some (.bool false) := (blk_cell BK1036.out 0).trans rfl
        have hcz33_1 : wr.cell? ⟨gb1036, 1, none⟩ = some (.string a1_1) := (blk_cell BK1036.out 1).trans rfl
        have hcz33_2 : wr.cell? ⟨gb1036, 2, none⟩ = some (.slice A1_2 l1_2.length c1_2) := (blk_cell BK1036.out 2).trans rfl
        have hfz33_0 := blk_frozen BK1036.out 0
        have hfz33_1 := blk_frozen BK1036.out 1
        have hfz33_2 := blk_frozen BK1036.out 2
        go_wp2
        go_ret
        exact ⟨by first | rfl | (simp [errW_none, errW_some] <;> rfl) | (simp [*, errW_none, errW_some] <;> rfl), bel_⟩

end Go.Proofs.Ytecplbgdalchdaa.Q
-- written by a program of this session (wip/tools/myprint.py) out of the translation
namespace Go.Proofs.Ytecplbgdalchdaa.Q
open Go.RowKit Go.Proofs.YtecplbgdalchdaaW.PrintWords Go.Proofs.YtecplbgdalchdaaW.PrintLast Go.Proofs.YtecplbgdalchdaaW.PrintMore
attribute [local go_sem] max2_int min2_int max_two min_two max_three min_three max_four min_four   -- for this text's walks alone
set_option linter.unusedVariables false
set_option linter.unusedSimpArgs false

/-! ### sequentref04_Great: function 69 -/
mutual
def sequentref04_Great.j0 : Nat → Bool → List (S106) → List (S108) → Option (Bool)
 | 0, _, _, _ => none
 | k + 1, x26, x987000, x987001 => if x26 = true then (some true) else (sequentref04_Great.l0 k 0 x987000 x987001)
def sequentref04_Great.l0 : Nat → Int → List (S106) → List (S108) → Option (Bool)
 | 0, _, _, _ => none
 | k + 1, x3, x987000, x987001 => if x3 < (x987001.length : Int) then (if 0 ≤ x3 then ((sequentref01_Great.f k ((rd_T108 x987001 x3).f1.f0) ((rd_T108 x987001 x3).f1.f1) ((rd_T108 x987001 x3).f1.f2)).bind fun t988 => (if t988 = true then (some true) else (if (((rd_T108 x987001 x3).f0).size : Int) > 1000 then (some true) else (sequentref04_Great.l0 k (wrap64 (x3 + 1)) x987000 x987001)))) else (none)) else (sequentref04_Great.l1 k 0 x987000 x987001)
def sequentref04_Great.l1 : Nat → Int → List (S106) → List (S108) → Option (Bool)
 | 0, _, _, _ => none
 | k + 1, x4, x987000, x987001 => if x4 < (x987000.length : Int) then (if 0 ≤ x4 then (if (((rd_T106 x987000 x4).f0).size : Int) > 1000 then (some true) else (sequentref04_Great.l1 k (wrap64 (x4 + 1)) x987000 x987001)) else (none)) else (some false)
end
def sequentref04_Great.f (k : Nat) (l0_0 : List (S106)) (l0_1 : List (S108)) : Option (Bool) := if (l0_0.length : Int) > 600 then (sequentref04_Great.j0 k true l0_0 l0_1) else (if (l0_1.length : Int) > 600 then (sequentref04_Great.j0 k true l0_0 l0_1) else (if (l0_1.length : Int) > 100 then (sequentref04_Great.j0 k (decide ((l0_1.length : Int) ≤ 512)) l0_0 l0_1) else (sequentref04_Great.j0 k false l0_0 l0_1)))
set_option maxHeartbeats 8000000 in
set_option maxRecDepth 100000 in
theorem sequentref04_Great.calls (k : Nat) (A0_0 : Option Addr) (c0_0 : Nat) (l0_0 : List (S106)) (A0_1 : Option Addr) (c0_1 : Nat) (l0_1 : List (S108)) (r : Bool) (w : World) (hr0_0 : Kd.C k106 w A0_0 l0_0.length l0_0) (hc0_0 : l0_0.length ≤ c0_0) (hr0_1 : Kd.C k108 w A0_1 l0_1.length l0_1) (hc0_1 : l0_1.length ≤ c0_1) (h : sequentref04_Great.f k l0_0 l0_1 = some r) :
 Calls Try.prog 69 #[.agg #[.slice A0_0 l0_0.length c0_0, .slice A0_1 l0_1.length c0_1]] w fun e w' => e = .returned (.bool r) ∧ Below w.heap.size w w' := by
 have hu94 := Try.underlying94
 have hu24 := Try.underlying24
 have HR0_0 := Aside0.mk hr0_0
 have HC0_0 := Aside0.mk hc0_0
 clear hr0_0 hc0_0
 have HR0_1 := Aside0.mk hr0_1
 have HC0_1 := Aside0.mk hc0_1
 clear hr0_1 hc0_1
 have HB := Aside0.mk (Below.refl w.heap.size w)
 have H : (if (l0_0.length : Int) > 600 then (sequentref04_Great.j0 k true l0_0 l0_1) else (if (l0_1.length : Int) > 600 then (sequentref04_Great.j0 k true l0_0 l0_1) else (if (l0_1.length : Int) > 100 then (sequentref04_Great.j0 k (decide ((l0_1.length : Int) ≤ 512)) l0_0 l0_1) else (sequentref04_Great.j0 k false l0_0 l0_1)))) = some r := h
 clear h
 have HC2 := Aside0.mk H
 clear H
 go_enter Try.func69, Try.ntmps69
 go_upto_region 1 with (first | ((with_reducible refine gate_dst (N := 1) rfl ?_); (try (refine gate_guard (by rfl) ?_; dsimp only)); refine box_event ?hg (N := 1) ?hd (cs := #[.slice A0_0 l0_0.length c0_0, .slice A0_1 l0_1.length c0_1]) (t := 94) ?hr ?_; (case hd => rfl); (case hg => rfl); (case hr => first | (go_simp; done) | (go_simp; rfl)); intro gb986 hg w3 hbox hb; have n0_ := Aside0.mk (below_step bel_ hb); have n1_ := Aside0.mk (hbox); have n2_ := Aside0.mk ((by rw [hg]; exact (below_size bel_) : w.heap.size ≤ gb986)); have n3_ := Aside0.mk ((by rw [hg]; exact (below_size bel_) : w.heap.size ≤ gb986)); clear HB; have HB := n0_; have BK986 := n1_; have GW986 := n2_; have GE986 := n3_; clear n0_ n1_ n2_ n3_; clear hb hbox hg))
 (try simp only [Act.put, List.setIfInBounds_toArray, List.set_cons_zero, List.set_cons_succ])
 go_cut [26] (fun v26 wc => ∃ (kq : Nat) (x26_1 : Bool), v26 = .bool x26_1 ∧ Aside0 (sequentref04_Great.j0 kq x26_1 l0_0 l0_1 = some r) ∧ Aside0 (kq ≤ k) ∧ Aside0 (wc.heap[gb986]? = some (.cells #[(.slice A0_0 l0_0.length c0_0), (.slice A0_1 l0_1.length c0_1)] 94 (0, 0))) ∧ Aside0 (Below w.heap.size w wc))
 case first =>
  have H := HC2.out
  clear HC2
  by_cases c4 : (l0_0.length : Int) > 600
  ·rw [if_pos c4] at H
   have c4b0 : decide (600 < (l0_0.length : Int)) = true := decide_eq_true c4
   have c4b1 : decide (600 < l0_0.length) = true := decide_eq_true (by omega)
   clear c4
   (first | rw [c4b0] | (simp only [i64_w, i32_w]; rw [c4b0]) | skip)
   have H' := Aside0.mk H
   clear H
   have hcz5_0 : w3.cell? ⟨gb986, 0, none⟩ = some (.slice A0_0 l0_0.length c0_0) := (blk_cell BK986.out 0).trans rfl
   have hcz5_1 : w3.cell? ⟨gb986, 1, none⟩ = some (.slice A0_1 l0_1.length c0_1) := (blk_cell BK986.out 1).trans rfl
   have hfz5_0 := blk_frozen BK986.out 0
   have hfz5_1 := blk_frozen BK986.out 1
   go_wp2
   go_meet
   case rel => exact ⟨_, (true), (by first | rfl | (simp; done) | (simp [*]; done)), H', ⟨by first | omega | exact Nat.le_refl _⟩, ⟨bk_ BK986⟩, ⟨bel_⟩⟩
  ·rw [if_neg c4] at H
   have c4b0 : decide (600 < (l0_0.length : Int)) = false := decide_eq_false c4
   have c4b1 : decide (600 < l0_0.length) = false := decide_eq_false (by omega)
   clear c4
   (first | rw [c4b0] | (simp only [i64_w, i32_w]; rw [c4b0]) | skip)
   by_cases c6 : (l0_1.length : Int) > 600
   ·rw [if_pos c6] at H
    have c6b0 : decide (600 < (l0_1.length : Int)) = true := decide_eq_true c6
    have c6b1 : decide (600 < l0_1.length) = true := decide_eq_true (by omega)
    clear c6
    have H' := Aside0.mk H
    clear H
    have hcz7_0 : w3.cell? ⟨gb986, 0, none⟩ = some (.slice A0_0 l0_0.length c0_0) := (blk_cell BK986.out 0).trans rfl
    have hcz7_1 : w3.cell? ⟨gb986, 1, none⟩ = some (.slice A0_1 l0_1.length c0_1) := (blk_cell BK986.out 1).trans rfl
    have hfz7_0 := blk_frozen BK986.out 0
    have hfz7_1 := blk_frozen BK986.out 1
    go_wp2
    go_meet
    case rel => exact ⟨_, (true), (by first | rfl | (simp; done) | (simp [*]; done)), H', ⟨by first | omega | exact Nat.le_refl _⟩, ⟨bk_ BK986⟩, ⟨bel_⟩⟩
   ·rw [if_neg c6] at H
    have c6b0 : decide (600 < (l0_1.length : Int)) = false := decide_eq_false c6
    have c6b1 : decide (600 < l0_1.length) = false := decide_eq_false (by omega)
    clear c6
    by_cases c8 : (l0_1.length : Int) > 100
    ·rw [if_pos c8] at H
     have c8b0 : decide (100 < (l0_1.length : Int)) = true := decide_eq_true c8
     have c8b1 : decide (100 < l0_1.length) = true := decide_eq_true (by omega)
     clear c8
     have H' := Aside0.mk H
     clear H
     have hcz9_0 : w3.cell? ⟨gb986, 0, none⟩ = some (.slice A0_0 l0_0.length c0_0) := (blk_cell BK986.out 0).trans rfl
     have hcz9_1 : w3.cell? ⟨gb986, 1, none⟩ = some (.slice A0_1 l0_1.length c0_1) := (blk_cell BK986.out 1).trans rfl
     have hfz9_0 := blk_frozen BK986.out 0
     have hfz9_1 := blk_frozen BK986.out 1
     go_wp2
     go_meet
     case rel => exact ⟨_, (decide ((l0_1.length : Int) ≤ 512)), (by first | rfl | (simp; done) | (simp [*]; done)), H', ⟨by first | omega | exact Nat.le_refl _⟩, ⟨bk_ BK986⟩, ⟨bel_⟩⟩
    ·rw [if_neg c8] at H
     have c8b0 : decide (100 < (l0_1.length : Int)) = false := decide_eq_false c8
     have c8b1 : decide (100 < l0_1.length) = false := decide_eq_false (by omega)
     clear c8
     have H' := Aside0.mk H
     clear H
     have hcz10_0 : w3.cell? ⟨gb986, 0, none⟩ = some (.slice A0_0 l0_0.length c0_0) := (blk_cell BK986.out 0).trans rfl
     have hcz10_1 : w3.cell? ⟨gb986, 1, none⟩ = some (.slice A0_1 l0_1.length c0_1) := (blk_cell BK986.out 1).trans rfl
     have hfz10_0 := blk_frozen BK986.out 0
     have hfz10_1 := blk_frozen BK986.out 1
     go_wp2
     go_meet
     case rel => exact ⟨_, (false), (by first | rfl | (simp; done) | (simp [*]; done)), H', ⟨by first | omega | exact Nat.le_refl _⟩, ⟨bk_ BK986⟩, ⟨bel_⟩⟩
 case rest =>
  clear HC2
  try clear p2
  try clear c4
  try clear c4b0
  try clear c4b1
  try clear c6
  try clear c6b0
  try clear c6b1
  try clear c8
  try clear c8b0
  try clear c8b1
  try clear hcz10_0
  try clear hcz10_1
  try clear hcz5_0
  try clear hcz5_1
  try clear hcz7_0
  try clear hcz7_1
  try clear hcz9_0
  try clear hcz9_1
  try clear hfz10_0
  try clear hfz10_1
  try clear hfz5_0
  try clear hfz5_1
  try clear hfz7_0
  try clear hfz7_1
  try clear hfz9_0
  try clear hfz9_1
  obtain ⟨kq, x26_1, rfl, HA, HJ1, BK986, HB⟩ := hcut
  cases kq with
  | zero => exact absurd HA.out (by simp [sequentref04_Great.j0])
  | succ kj1 =>
   have H := HA.out
   clear HA
   simp only [sequentref04_Great.j0] at H
   by_cases c11 : x26_1 = true
   ·subst c11
    have H1 : (some true) = some r := by rw [if_pos rfl] at H; exact H
    clear H
    have H := H1
    clear H1
    obtain rfl := Option.some.inj H
    go_wp2
    go_ret
    exact ⟨by first | rfl | (simp [errW_none, errW_some] <;> rfl) | (simp [*, errW_none, errW_some] <;> rfl), bel_⟩
   ·replace c11 := Bool.eq_false_iff.mpr c11
    subst c11
    have H1 : (sequentref04_Great.l0 kj1 0 l0_0 l0_1) = some r := by rw [if_neg (show ¬ (false = true) by decide)] at H; exact H
    clear H
    have H := H1
    clear H1
    have H' := Aside0.mk H
    clear H
    go_wp2
    go_loopg [3] kj1 (fun kq v3 w' => ∃ (x3_2 : Int), v3 = .int .i64 x3_2 ∧ Aside0 (sequentref04_Great.l0 kq x3_2 l0_0 l0_1 = some r) ∧ Aside0 (kq ≤ kj1) ∧ Aside0 (w'.heap[gb986]? = some (.cells #[(.slice A0_0 l0_0.length c0_0), (.slice A0_1 l0_1.length c0_1)] 94 (0, 0))) ∧ Aside0 (Below w.heap.size w w'))
    case atStart => exact ⟨(0), (by first | rfl | (simp; done) | (simp [*]; done)), H', ⟨Nat.le_refl _⟩, ⟨bk_ BK986⟩, ⟨bel_⟩⟩
    case round =>
     clear H'
     try clear c1
     try clear p2
     try clear c4
     try clear c4b0
     try clear c4b1
     try clear c6
     try clear c6b0
     try clear c6b1
     try clear c8
     try clear c8b0
     try clear c8b1
     try clear c11
     try clear hcz10_0
     try clear hcz10_1
     try clear hcz5_0
     try clear hcz5_1
     try clear hcz7_0
     try clear hcz7_1
     try clear hcz9_0
     try clear hcz9_1
     try clear hfz10_0
     try clear hfz10_1
     try clear hfz5_0
     try clear hfz5_1
     try clear hfz7_0
     try clear hfz7_1
     try clear hfz9_0
     try clear hfz9_1
     try clear p2
     obtain ⟨x3_2, rfl, HA, HK2, BK986, HB⟩ := hrel
     cases gk with
     | zero => exact absurd HA.out (by simp [sequentref04_Great.l0])
     | succ k2 =>
      have H := HA.out
      clear HA
      simp only [sequentref04_Great.l0] at H
      by_cases c12 : x3_2 < (l0_1.length : Int)
      ·rw [if_pos c12] at H
       have c12b0 : decide (x3_2 < (l0_1.length : Int)) = true := decide_eq_true c12
       clear c12
       by_cases c13 : 0 ≤ x3_2
       ·rw [if_pos c13] at H
        have c13b0 : decide (0 ≤ x3_2) = true := decide_eq_true c13
        clear c13
        replace H := Option.bind_eq_some_iff.mp H
        obtain ⟨t988, A140, H⟩ := H
        replace H : (if t988 = true then (some true) else (if (((rd_T108 l0_1 x3_2).f0).size : Int) > 1000 then (some true) else (sequentref04_Great.l0 k2 (wrap64 (x3_2 + 1)) l0_0 l0_1))) = some r := H
        have A14 := Aside0.mk A140
        clear A140
        by_cases c15 : t988 = true
        ·subst c15
         have H1 : (some true) = some r := by rw [if_pos rfl] at H; exact H
         clear H
         have H := H1
         clear H1
         obtain rfl := Option.some.inj H
         have hcz16_0 : wr.cell? ⟨gb986, 0, none⟩ = some (.slice A0_0 l0_0.length c0_0) := (blk_cell BK986.out 0).trans rfl
         have hcz16_1 : wr.cell? ⟨gb986, 1, none⟩ = some (.slice A0_1 l0_1.length c0_1) := (blk_cell BK986.out 1).trans rfl
         have hfz16_0 := blk_frozen BK986.out 0
         have hfz16_1 := blk_frozen BK986.out 1
         have p987 : 0 ≤ (x3_2 : Int) := dq_
         have q987 : x3_2 < (l0_1.length : Int) := dq_
         obtain ⟨ad987, A987_3, c987_3, e987, hx987_0, hx987_1, hx987_2, hx987_3, hl987_3, hi987_3⟩ := at_T108 HR0_1.out x3_2 p987 q987
         cases e987
         replace hx987_0 := pw_cell_below HB.out hx987_0
         replace hx987_1 := pw_cell_below HB.out hx987_1
         replace hx987_2 := pw_cell_below HB.out hx987_2
         replace hx987_3 := pw_cell_below HB.out hx987_3
         have HR987_3 := Aside0.mk hi987_3
         have HC987_3 := Aside0.mk hl987_3
         clear hi987_3 hl987_3
         replace p987 := eq_true p987
         replace q987 := eq_true q987
         go_wp2_with (first | ((with_reducible refine gate_callee (f := 84) rfl ?_); refine goesL_ (some 40) rfl rfl Try.func84 (by kernel_rfl) rfl #[.agg #[.bool ((rd_T108 l0_1 x3_2).f1.f0), .string ((rd_T108 l0_1 x3_2).f1.f1), .slice A987_3 ((rd_T108 l0_1 x3_2).f1.f2).length c987_3]] rfl (by (try simp only [List.map_toArray, List.map_cons, List.map_nil]); first | done | rfl | (simp only [List.length_drop, List.length_take]; rfl)) ?_; (with_reducible refine (sequentref01_Great.calls k2 ((rd_T108 l0_1 x3_2).f1.f0) ((rd_T108 l0_1 x3_2).f1.f1) _ _ ((rd_T108 l0_1 x3_2).f1.f2) true _ ?side1 ?side2 A14.out).mono ?_); (case side1 => repeat (first | exact (Kd.C_below HR987_3.out HB.out) | (with_reducible refine Kd.C_alloc ?_ _) | (with_reducible refine Kd.C_drewN ?_ _) | (with_reducible refine Kd.C_drew ?_))); (case side2 => exact HC987_3.out); rintro e w17 ⟨rfl, hb⟩; refine ⟨_, rfl, ?_⟩; have n0_ := Aside0.mk (blk_below (g := gb986) (o := .cells #[.slice A0_0 l0_0.length c0_0, .slice (some ad987) l0_1.length c0_1] 94 (0, 0)) (bk_ BK986) hb); have n1_ := Aside0.mk (below_step bel_ hb); clear BK986; clear HB; have BK986 := n0_; have HB := n1_; clear n0_ n1_; (try clear hb); (try clear hb2); (try clear hk); (try clear hi)))
         go_ret
         exact ⟨by first | rfl | (simp [errW_none, errW_some] <;> rfl) | (simp [*, errW_none, errW_some] <;> rfl), bel_⟩
        ·replace c15 := Bool.eq_false_iff.mpr c15
         subst c15
         have H1 : (if (((rd_T108 l0_1 x3_2).f0).size : Int) > 1000 then (some true) else (sequentref04_Great.l0 k2 (wrap64 (x3_2 + 1)) l0_0 l0_1)) = some r := by rw [if_neg (show ¬ (false = true) by decide)] at H; exact H
         clear H
         have H := H1
         clear H1
         by_cases c18 : (((rd_T108 l0_1 x3_2).f0).size : Int) > 1000
         ·rw [if_pos c18] at H
          have c18b0 : decide (1000 < (((rd_T108 l0_1 x3_2).f0).size : Int)) = true := decide_eq_true c18
          have c18b1 : decide (1000 < ((rd_T108 l0_1 x3_2).f0).size) = true := decide_eq_true (by omega)
          clear c18
          obtain rfl := Option.some.inj H
          have hcz19_0 : wr.cell? ⟨gb986, 0, none⟩ = some (.slice A0_0 l0_0.length c0_0) := (blk_cell BK986.out 0).trans rfl
          have hcz19_1 : wr.cell? ⟨gb986, 1, none⟩ = some (.slice A0_1 l0_1.length c0_1) := (blk_cell BK986.out 1).trans rfl
          have hfz19_0 := blk_frozen BK986.out 0
          have hfz19_1 := blk_frozen BK986.out 1
          have p987 : 0 ≤ (x3_2 : Int) := dq_
          have q987 : x3_2 < (l0_1.length : Int) := dq_
          obtain ⟨ad987, A987_3, c987_3, e987, hx987_0, hx987_1, hx987_2, hx987_3, hl987_3, hi987_3⟩ := at_T108 HR0_1.out x3_2 p987 q987
          cases e987
          replace hx987_0 := pw_cell_below HB.out hx987_0
          replace hx987_1 := pw_cell_below HB.out hx987_1
          replace hx987_2 := pw_cell_below HB.out hx987_2
          replace hx987_3 := pw_cell_below HB.out hx987_3
          have HR987_3 := Aside0.mk hi987_3
          have HC987_3 := Aside0.mk hl987_3
          clear hi987_3 hl987_3
          replace p987 := eq_true p987
          replace q987 := eq_true q987
          go_wp2_with (first | ((with_reducible refine gate_callee (f := 84) rfl ?_); refine goesL_ (some 40) rfl rfl Try.func84 (by kernel_rfl) rfl #[.agg #[.bool ((rd_T108 l0_1 x3_2).f1.f0), .string ((rd_T108 l0_1 x3_2).f1.f1), .slice A987_3 ((rd_T108 l0_1 x3_2).f1.f2).length c987_3]] rfl (by (try simp only [List.map_toArray, List.map_cons, List.map_nil]); first | done | rfl | (simp only [List.length_drop, List.length_take]; rfl)) ?_; (with_reducible refine (sequentref01_Great.calls k2 ((rd_T108 l0_1 x3_2).f1.f0) ((rd_T108 l0_1 x3_2).f1.f1) _ _ ((rd_T108 l0_1 x3_2).f1.f2) false _ ?side1 ?side2 A14.out).mono ?_); (case side1 => repeat (first | exact (Kd.C_below HR987_3.out HB.out) | (with_reducible refine Kd.C_alloc ?_ _) | (with_reducible refine Kd.C_drewN ?_ _) | (with_reducible refine Kd.C_drew ?_))); (case side2 => exact HC987_3.out); rintro e w20 ⟨rfl, hb⟩; refine ⟨_, rfl, ?_⟩; have n0_ := Aside0.mk (blk_below (g := gb986) (o := .cells #[.slice A0_0 l0_0.length c0_0, .slice (some ad987) l0_1.length c0_1] 94 (0, 0)) (bk_ BK986) hb); have n1_ := Aside0.mk (below_step bel_ hb); clear BK986; clear HB; have BK986 := n0_; have HB := n1_; clear n0_ n1_; (try clear hb); (try clear hb2); (try clear hk); (try clear hi); have hcz21_0 : w20.cell? ⟨gb986, 0, none⟩ = some (.slice A0_0 l0_0.length c0_0) := (blk_cell BK986.out 0).trans rfl; have hcz21_1 : w20.cell? ⟨gb986, 1, none⟩ = some (.slice (some ad987) l0_1.length c0_1) := (blk_cell BK986.out 1).trans rfl; have hfz21_0 := blk_frozen BK986.out 0; have hfz21_1 := blk_frozen BK986.out 1; have p989 : 0 ≤ (x3_2 : Int) := dq_; have q989 : x3_2 < (l0_1.length : Int) := dq_; obtain ⟨ad989, A989_3, c989_3, e989, hx989_0, hx989_1, hx989_2, hx989_3, hl989_3, hi989_3⟩ := at_T108 HR0_1.out x3_2 p989 q989; obtain rfl : ad987 = ad989 := (by injection e989); replace hx989_0 := pw_cell_below HB.out hx989_0; replace hx989_1 := pw_cell_below HB.out hx989_1; replace hx989_2 := pw_cell_below HB.out hx989_2; replace hx989_3 := pw_cell_below HB.out hx989_3; have HR989_3 := Aside0.mk hi989_3; have HC989_3 := Aside0.mk hl989_3; clear hi989_3 hl989_3; replace p989 := eq_true p989; replace q989 := eq_true q989))
          go_ret
          exact ⟨by first | rfl | (simp [errW_none, errW_some] <;> rfl) | (simp [*, errW_none, errW_some] <;> rfl), bel_⟩
         ·rw [if_neg c18] at H
          have c18b0 : decide (1000 < (((rd_T108 l0_1 x3_2).f0).size : Int)) = false := decide_eq_false c18
          have c18b1 : decide (1000 < ((rd_T108 l0_1 x3_2).f0).size) = false := decide_eq_false (by omega)
          clear c18
          have H' := Aside0.mk H
          clear H
          have hcz22_0 : wr.cell? ⟨gb986, 0, none⟩ = some (.slice A0_0 l0_0.length c0_0) := (blk_cell BK986.out 0).trans rfl
          have hcz22_1 : wr.cell? ⟨gb986, 1, none⟩ = some (.slice A0_1 l0_1.length c0_1) := (blk_cell BK986.out 1).trans rfl
          have hfz22_0 := blk_frozen BK986.out 0
          have hfz22_1 := blk_frozen BK986.out 1
          have p987 : 0 ≤ (x3_2 : Int) := dq_
          have q987 : x3_2 < (l0_1.length : Int) := dq_
          obtain ⟨ad987, A987_3, c987_3, e987, hx987_0, hx987_1, hx987_2, hx987_3, hl987_3, hi987_3⟩ := at_T108 HR0_1.out x3_2 p987 q987
          cases e987
          replace hx987_0 := pw_cell_below HB.out hx987_0
          replace hx987_1 := pw_cell_below HB.out hx987_1
          replace hx987_2 := pw_cell_below HB.out hx987_2
          replace hx987_3 := pw_cell_below HB.out hx987_3
          have HR987_3 := Aside0.mk hi987_3
          have HC987_3 := Aside0.mk hl987_3
          clear hi987_3 hl987_3
          replace p987 := eq_true p987
          replace q987 := eq_true q987
          go_wp2_with (first | ((with_reducible refine gate_callee (f := 84) rfl ?_); refine goesL_ (some 40) rfl rfl Try.func84 (by kernel_rfl) rfl #[.agg #[.bool ((rd_T108 l0_1 x3_2).f1.f0), .string ((rd_T108 l0_1 x3_2).f1.f1), .slice A987_3 ((rd_T108 l0_1 x3_2).f1.f2).length c987_3]] rfl (by (try simp only [List.map_toArray, List.map_cons, List.map_nil]); first | done | rfl | (simp only [List.length_drop, List.length_take]; rfl)) ?_; (with_reducible refine (sequentref01_Great.calls k2 ((rd_T108 l0_1 x3_2).f1.f0) ((rd_T108 l0_1 x3_2).f1.f1) _ _ ((rd_T108 l0_1 x3_2).f1.f2) false _ ?side1 ?side2 A14.out).mono ?_); (case side1 => repeat (first | exact (Kd.C_below HR987_3.out HB.out) | (with_reducible refine Kd.C_alloc ?_ _) | (with_reducible refine Kd.C_drewN ?_ _) | (with_reducible refine Kd.C_drew ?_))); (case side2 => exact HC987_3.out); rintro e w23 ⟨rfl, hb⟩; refine ⟨_, rfl, ?_⟩; have n0_ := Aside0.mk (blk_below (g := gb986) (o := .cells #[.slice A0_0 l0_0.length c0_0, .slice (some ad987) l0_1.length c0_1] 94 (0, 0)) (bk_ BK986) hb); have n1_ := Aside0.mk (below_step bel_ hb); clear BK986; clear HB; have BK986 := n0_; have HB := n1_; clear n0_ n1_; (try clear hb); (try clear hb2); (try clear hk); (try clear hi); have hcz24_0 : w23.cell? ⟨gb986, 0, none⟩ = some (.slice A0_0 l0_0.length c0_0) := (blk_cell BK986.out 0).trans rfl; have hcz24_1 : w23.cell? ⟨gb986, 1, none⟩ = some (.slice (some ad987) l0_1.length c0_1) := (blk_cell BK986.out 1).trans rfl; have hfz24_0 := blk_frozen BK986.out 0; have hfz24_1 := blk_frozen BK986.out 1; have p989 : 0 ≤ (x3_2 : Int) := dq_; have q989 : x3_2 < (l0_1.length : Int) := dq_; obtain ⟨ad989, A989_3, c989_3, e989, hx989_0, hx989_1, hx989_2, hx989_3, hl989_3, hi989_3⟩ := at_T108 HR0_1.out x3_2 p989 q989; obtain rfl : ad987 = ad989 := (by injection e989); replace hx989_0 := pw_cell_below HB.out hx989_0; replace hx989_1 := pw_cell_below HB.out hx989_1; replace hx989_2 := pw_cell_below HB.out hx989_2; replace hx989_3 := pw_cell_below HB.out hx989_3; have HR989_3 := Aside0.mk hi989_3; have HC989_3 := Aside0.mk hl989_3; clear hi989_3 hl989_3; replace p989 := eq_true p989; replace q989 := eq_true q989))
          go_roundg k2
          case measure => have := HJ1.out; have := HK2.out; omega
          case rel => exact ⟨(wrap64 (x3_2 + 1)), (by first | rfl | (simp; done) | (simp [*]; done)), H', ⟨by have := HJ1.out; have := HK2.out; omega⟩, ⟨bk_ BK986⟩, ⟨bel_⟩⟩
       ·rw [if_neg c13] at H
        exact absurd H (by simp)
      ·rw [if_neg c12] at H
       have c12b0 : decide (x3_2 < (l0_1.length : Int)) = false := decide_eq_false c12
       clear c12
       have H' := Aside0.mk H
       clear H
       have hcz25_0 : wr.cell? ⟨gb986, 0, none⟩ = some (.slice A0_0 l0_0.length c0_0) := (blk_cell BK986.out 0).trans rfl
       have hcz25_1 : wr.cell? ⟨gb986, 1, none⟩ = some (.slice A0_1 l0_1.length c0_1) := (blk_cell BK986.out 1).trans rfl
       have hfz25_0 := blk_frozen BK986.out 0
       have hfz25_1 := blk_frozen BK986.out 1
       go_wp2
       go_loopg [4] k2 (fun kq v4 w' => ∃ (x4_3 : Int), v4 = .int .i64 x4_3 ∧ Aside0 (sequentref04_Great.l1 kq x4_3 l0_0 l0_1 = some r) ∧ Aside0 (kq ≤ k2) ∧ Aside0 (w'.heap[gb986]? = some (.cells #[(.slice A0_0 l0_0.length c0_0), (.slice A0_1 l0_1.length c0_1)] 94 (0, 0))) ∧ Aside0 (Below w.heap.size w w'))
       case atStart => exact ⟨(0), (by first | rfl | (simp; done) | (simp [*]; done)), H', ⟨Nat.le_refl _⟩, ⟨bk_ BK986⟩, ⟨bel_⟩⟩
       case round =>
        clear H'
        try clear c1
        try clear p2
        try clear c4
        try clear c4b0
        try clear c4b1
        try clear c6
        try clear c6b0
        try clear c6b1
        try clear p6
        try clear c8
        try clear c8b0
        try clear c8b1
        try clear c9
        try clear p9
        try clear q9
        try clear hx9
        try clear c11
        try clear c12
        try clear c12b0
        try clear c13
        try clear c13b0
        try clear c15
        try clear c18
        try clear c18b0
        try clear c18b1
        try clear hcz10_0
        try clear hcz10_1
        try clear hcz16_0
        try clear hcz16_1
        try clear hcz19_0
        try clear hcz19_1
        try clear hcz21_0
        try clear hcz21_1
        try clear hcz22_0
        try clear hcz22_1
        try clear hcz24_0
        try clear hcz24_1
        try clear hcz25_0
        try clear hcz25_1
        try clear hcz5_0
        try clear hcz5_1
        try clear hcz7_0
        try clear hcz7_1
        try clear hcz9_0
        try clear hcz9_1
        try clear hfz10_0
        try clear hfz10_1
        try clear hfz16_0
        try clear hfz16_1
        try clear hfz19_0
        try clear hfz19_1
        try clear hfz21_0
        try clear hfz21_1
        try clear hfz22_0
        try clear hfz22_1
        try clear hfz24_0
        try clear hfz24_1
        try clear hfz25_0
        try clear hfz25_1
        try clear hfz5_0
        try clear hfz5_1
        try clear hfz7_0
        try clear hfz7_1
        try clear hfz9_0
        try clear hfz9_1
        try clear hx987_0
        try clear hx987_1
        try clear hx987_2
        try clear hx987_3
        try clear hx989_0
        try clear hx989_1
        try clear hx989_2
        try clear hx989_3
        try clear p2
        try clear p987
        try clear p989
        try clear q987
        try clear q989
        obtain ⟨x4_3, rfl, HA, HK3, BK986, HB⟩ := hrel
        cases gk with
        | zero => exact absurd HA.out (by simp [sequentref04_Great.l1])
        | succ k3 =>
         have H := HA.out
         clear HA
         simp only [sequentref04_Great.l1] at H
         by_cases c26 : x4_3 < (l0_0.length : Int)
         ·rw [if_pos c26] at H
          have c26b0 : decide (x4_3 < (l0_0.length : Int)) = true := decide_eq_true c26
          clear c26
          by_cases c27 : 0 ≤ x4_3
          ·rw [if_pos c27] at H
           have c27b0 : decide (0 ≤ x4_3) = true := decide_eq_true c27
           clear c27
           by_cases c28 : (((rd_T106 l0_0 x4_3).f0).size : Int) > 1000
           ·rw [if_pos c28] at H
            have c28b0 : decide (1000 < (((rd_T106 l0_0 x4_3).f0).size : Int)) = true := decide_eq_true c28
            have c28b1 : decide (1000 < ((rd_T106 l0_0 x4_3).f0).size) = true := decide_eq_true (by omega)
            clear c28
            obtain rfl := Option.some.inj H
            have hcz29_0 : wr.cell? ⟨gb986, 0, none⟩ = some (.slice A0_0 l0_0.length c0_0) := (blk_cell BK986.out 0).trans rfl
            have hcz29_1 : wr.cell? ⟨gb986, 1, none⟩ = some (.slice A0_1 l0_1.length c0_1) := (blk_cell BK986.out 1).trans rfl
            have hfz29_0 := blk_frozen BK986.out 0
            have hfz29_1 := blk_frozen BK986.out 1
            have p990 : 0 ≤ (x4_3 : Int) := dq_
            have q990 : x4_3 < (l0_0.length : Int) := dq_
            obtain ⟨ad990, e990, hx990_0, hx990_1⟩ := at_T106 HR0_0.out x4_3 p990 q990
            cases e990
            replace hx990_0 := pw_cell_below HB.out hx990_0
            replace hx990_1 := pw_cell_below HB.out hx990_1
            replace p990 := eq_true p990
            replace q990 := eq_true q990
            go_wp2
            go_ret
            exact ⟨by first | rfl | (simp [errW_none, errW_some] <;> rfl) | (simp [*, errW_none, errW_some] <;> rfl), bel_⟩
           ·rw [if_neg c28] at H
            have c28b0 : decide (1000 < (((rd_T106 l0_0 x4_3).f0).size : Int)) = false := decide_eq_false c28
            have c28b1 : decide (1000 < ((rd_T106 l0_0 x4_3).f0).size) = false := decide_eq_false (by omega)
            clear c28
            have H' := Aside0.mk H
            clear H
            have hcz30_0 : wr.cell? ⟨gb986, 0, none⟩ = some (.slice A0_0 l0_0.length c0_0) := (blk_cell BK986.out 0).trans rfl
            have hcz30_1 : wr.cell? ⟨gb986, 1, none⟩ = some (.slice A0_1 l0_1.length c0_1) := (blk_cell BK986.out 1).trans rfl
            have hfz30_0 := blk_frozen BK986.out 0
            have hfz30_1 := blk_frozen BK986.out 1
            have p990 : 0 ≤ (x4_3 : Int) := dq_
            have q990 : x4_3 < (l0_0.length : Int) := dq_
            obtain ⟨ad990, e990, hx990_0, hx990_1⟩ := at_T106 HR0_0.out x4_3 p990 q990
            cases e990
            replace hx990_0 := pw_cell_below HB.out hx990_0
            replace hx990_1 := pw_cell_below HB.out hx990_1
            replace p990 := eq_true p990
            replace q990 := eq_true q990
            go_wp2
            go_roundg k3
            case measure => have := HJ1.out; have := HK2.out; have := HK3.out; omega
            case rel => exact ⟨(wrap64 (x4_3 + 1)), (by first | rfl | (simp; done) | (simp [*]; done)), H', ⟨by have := HJ1.out; have := HK2.out; have := HK3.out; omega⟩, ⟨bk_ BK986⟩, ⟨bel_⟩⟩
          ·rw [if_neg c27] at H
           exact absurd H (by simp)
         ·rw [if_neg c26] at H
          have c26b0 : decide (x4_3 < (l0_0.length : Int)) = false := decide_eq_false c26
          clear c26
          obtain rfl := Option.some.inj H
          have hcz31_0 : wr.cell? ⟨gb986, 0, none⟩ = some (.slice A0_0 l0_0.length c0_0) := (blk_cell BK986.out 0).trans rfl
          have hcz31_1 : wr.cell? ⟨gb986, 1, none⟩ = some (.slice A0_1 l0_1.length c0_1) := (blk_cell BK986.out 1).trans rfl
          have hfz31_0 := blk_frozen BK986.out 0
          have hfz31_1 := blk_frozen BK986.out 1
          go_wp2
          go_ret
          exact ⟨by first | rfl | (simp [errW_none, errW_some] <;> rfl) | (simp [*, errW_none, errW_some] <;> rfl), bel_⟩

end Go.Proofs.Ytecplbgdalchdaa.Q
-- written by a program of this session (wip/tools/myprint.py) out of the translation
namespace Go.Proofs.Ytecplbgdalchdaa.Q
open Go.RowKit Go.Proofs.YtecplbgdalchdaaW.PrintWords Go.Proofs.YtecplbgdalchdaaW.PrintLast Go.Proofs.YtecplbgdalchdaaW.PrintMore
attribute [local go_sem] max2_int min2_int max_two min_two max_three min_three max_four min_four   -- for this text's walks alone
set_option linter.unusedVariables false
set_option linter.unusedSimpArgs false

/-! ### sequentref04_Twin: function 70 -/
def sequentref04_Twin.l0 : Nat → Int → List (S106) → List (S108) → List (S106) → List (S108) → Option ((List (S106)) × (List (S108)))
 | 0, _, _, _, _, _ => none
 | k + 1, x4, x992000, x992001, x994000, x994001 => if x4 < (x992001.length : Int) then (if 0 ≤ x4 then ((sequentref01_Twin.f k ((rd_T108 x992001 x4).f1.f0) ((rd_T108 x992001 x4).f1.f1) ((rd_T108 x992001 x4).f1.f2)).bind fun bt999 => (if x994001.length < 2199023255552 then (sequentref04_Twin.l0 k (wrap64 (x4 + 1)) x992000 x992001 x994000 (x994001 ++ [(⟨(rd_T108 x992001 x4).f0, (⟨bt999.1, bt999.2.1, bt999.2.2⟩ : S24)⟩ : S108)])) else (none))) else (none)) else (some (x994000, x994001))
def sequentref04_Twin.f (k : Nat) (l0_0 : List (S106)) (l0_1 : List (S108)) : Option ((List (S106)) × (List (S108))) := if ([] : List (S106)).length + l0_0.length < 5864062014805 then (sequentref04_Twin.l0 k 0 l0_0 l0_1 (([] : List (S106)) ++ l0_0) ([] : List (S108))) else (none)
def sequentref04_Twin.T6 : Bool × List (List Nat × List Nat) := (true, [([], []), ([0], [0]), ([], []), ([2], [2]), ([], []), ([3, 4], [3, 4]), ([5], [5]), ([6], [6]), ([], []), ([8], [8]), ([], []), ([9, 10], [9, 10]), ([11], [11]), ([12], [12]), ([13], [13]), ([7, 14], [7, 14]), ([15], [15]), ([1, 16, 14], [1, 16]), ([0, 1, 2, 3, 4, 5, 6, 7, 8, 9, 10, 11, 12, 13, 14, 15, 16, 17], []), ([18, 17, 17, 0, 1, 2, 3, 4, 5, 6, 7, 8, 9, 10, 11, 12, 13, 14, 15, 16, 17], [17, 18])])
def sequentref04_Twin.B6 : List Nat := [0, 1, 0, 4, 0, 28, 60, 124, 0, 256, 0, 1792, 3840, 7936, 16128, 32764, 65532, 131071, 262143, 524287]
theorem sequentref04_Twin.tab6 : rtab .any (opsOf Try.f70 6) = sequentref04_Twin.T6 := by kernel_rfl
theorem sequentref04_Twin.bits6 : waitsOk sequentref04_Twin.T6.2 sequentref04_Twin.B6 = true := by kernel_rfl
set_option maxHeartbeats 8000000 in
set_option maxRecDepth 100000 in
theorem sequentref04_Twin.calls (k : Nat) (A0_0 : Option Addr) (c0_0 : Nat) (l0_0 : List (S106)) (A0_1 : Option Addr) (c0_1 : Nat) (l0_1 : List (S108)) (r1 : List (S106)) (r2 : List (S108)) (w : World) (hr0_0 : Kd.C k106 w A0_0 l0_0.length l0_0) (hc0_0 : l0_0.length ≤ c0_0) (hr0_1 : Kd.C k108 w A0_1 l0_1.length l0_1) (hc0_1 : l0_1.length ≤ c0_1) (h : sequentref04_Twin.f k l0_0 l0_1 = some (r1, r2)) :
 Calls Try.prog 70 #[.agg #[.slice A0_0 l0_0.length c0_0, .slice A0_1 l0_1.length c0_1]] w fun e w' => ∃ v0_ v1_ : Value, e = .returned (.agg #[v0_, v1_]) ∧ Kd.R k106 106 w' w.heap.size (fun _ => True) v0_ r1 ∧ Kd.R k108 108 w' w.heap.size (fun _ => True) v1_ r2 ∧ Below w.heap.size w w' := by
 have hu94 := Try.underlying94
 have hu24 := Try.underlying24
 have hu108 := Try.underlying108
 have HR0_0 := Aside0.mk hr0_0
 have HC0_0 := Aside0.mk hc0_0
 clear hr0_0 hc0_0
 have HR0_1 := Aside0.mk hr0_1
 have HC0_1 := Aside0.mk hc0_1
 clear hr0_1 hc0_1
 have HB := Aside0.mk (Below.refl w.heap.size w)
 have H : (if ([] : List (S106)).length + l0_0.length < 5864062014805 then (sequentref04_Twin.l0 k 0 l0_0 l0_1 (([] : List (S106)) ++ l0_0) ([] : List (S108))) else (none)) = some (r1, r2) := h
 clear h
 by_cases c2 : ([] : List (S106)).length + l0_0.length < 5864062014805
 ·rw [if_pos c2] at H
  have LMc2 := Aside0.mk c2
  clear c2
  obtain ⟨y994, hy994⟩ : ∃ y_ : List (S106), y_ = (([] : List (S106)) ++ l0_0) := ⟨_, rfl⟩
  replace H : (sequentref04_Twin.l0 k 0 l0_0 l0_1 y994 ([] : List (S108))) = some (r1, r2) := by first | (rw [hy994]; with_reducible exact H) | (have H2_ := (Option.bind_some _ _).symm.trans H; rw [hy994]; with_reducible exact H2_) | (have H2_ := (Option.bind_some _ _).symm.trans H; with_reducible exact H2_) | with_reducible exact H | (rw [hy994]; exact H) | exact H
  have Ny994 := Aside0.mk hy994
  clear hy994
  have H' := Aside0.mk H
  clear H
  go_enter Try.func70, Try.ntmps70
  go_wp2_with (first | ((with_reducible refine gate_dst (N := 1) rfl ?_); refine box_event ?hg (N := 1) ?hd (cs := #[.slice A0_0 l0_0.length c0_0, .slice A0_1 l0_1.length c0_1]) (t := 94) ?hr ?_; (case hd => rfl); (case hg => rfl); (case hr => first | (go_simp; done) | (go_simp; rfl)); intro gb991 hg w3 hbox hb; have n0_ := Aside0.mk (below_step bel_ hb); have n1_ := Aside0.mk (hbox); have n2_ := Aside0.mk ((by rw [hg]; exact (below_size bel_) : w.heap.size ≤ gb991)); have n3_ := Aside0.mk ((by rw [hg]; exact (below_size bel_) : w.heap.size ≤ gb991)); clear HB; have HB := n0_; have BK991 := n1_; have GW991 := n2_; have GE991 := n3_; clear n0_ n1_ n2_ n3_; clear hb hbox hg) | ((with_reducible refine gate_dst (N := 2) rfl ?_); refine box_event ?hg (N := 2) ?hd (cs := #[.slice none 0 0, .slice none 0 0]) (t := 94) ?hr ?_; (case hd => rfl); (case hg => rfl); (case hr => first | (go_simp; done) | (go_simp; rfl)); intro gb992 hg w4 hbox hb; have n0_ := Aside0.mk (blk_below (g := gb991) (o := .cells #[.slice A0_0 l0_0.length c0_0, .slice A0_1 l0_1.length c0_1] 94 (0, 0)) (bk_ BK991) hb); have n1_ := Aside0.mk (below_step bel_ hb); have n2_ := Aside0.mk (hbox); have n3_ := Aside0.mk ((by rw [hg]; exact (below_size bel_) : w.heap.size ≤ gb992)); have n4_ := Aside0.mk ((by rw [hg]; exact (below_size bel_) : w.heap.size ≤ gb992)); have n5_ := Aside0.mk ((by rw [hg]; exact Nat.ne_of_lt (blk_lt (g := gb991) (o := .cells #[.slice A0_0 l0_0.length c0_0, .slice A0_1 l0_1.length c0_1] 94 (0, 0)) (bk_ BK991)) : gb991 ≠ gb992)); have n6_ := Aside0.mk ((by rw [hg]; exact Nat.ne_of_gt (blk_lt (g := gb991) (o := .cells #[.slice A0_0 l0_0.length c0_0, .slice A0_1 l0_1.length c0_1] 94 (0, 0)) (bk_ BK991)) : gb992 ≠ gb991)); clear BK991; clear HB; have BK991 := n0_; have HB := n1_; have BK992 := n2_; have GW992 := n3_; have GE992 := n4_; have NB991_992 := n5_; have NB992_991 := n6_; clear n0_ n1_ n2_ n3_ n4_ n5_ n6_; clear hb hbox hg) | ((with_reducible refine gate_dst (N := 3) rfl ?_); refine box_event ?hg (N := 3) ?hd (cs := #[.slice none 0 0, .slice none 0 0]) (t := 94) ?hr ?_; (case hd => rfl); (case hg => rfl); (case hr => first | (go_simp; done) | (go_simp; rfl)); intro gb993 hg w5 hbox hb; have n0_ := Aside0.mk (blk_below (g := gb991) (o := .cells #[.slice A0_0 l0_0.length c0_0, .slice A0_1 l0_1.length c0_1] 94 (0, 0)) (bk_ BK991) hb); have n1_ := Aside0.mk (blk_below (g := gb992) (o := .cells #[.slice none 0 0, .slice none 0 0] 94 (0, 0)) (bk_ BK992) hb); have n2_ := Aside0.mk (below_step bel_ hb); have n3_ := Aside0.mk (hbox); have n4_ := Aside0.mk ((by rw [hg]; exact (below_size bel_) : w.heap.size ≤ gb993)); have n5_ := Aside0.mk ((by rw [hg]; exact (below_size bel_) : w.heap.size ≤ gb993)); have n6_ := Aside0.mk ((by rw [hg]; exact Nat.ne_of_lt (blk_lt (g := gb991) (o := .cells #[.slice A0_0 l0_0.length c0_0, .slice A0_1 l0_1.length c0_1] 94 (0, 0)) (bk_ BK991)) : gb991 ≠ gb993)); have n7_ := Aside0.mk ((by rw [hg]; exact Nat.ne_of_gt (blk_lt (g := gb991) (o := .cells #[.slice A0_0 l0_0.length c0_0, .slice A0_1 l0_1.length c0_1] 94 (0, 0)) (bk_ BK991)) : gb993 ≠ gb991)); have n8_ := Aside0.mk ((by rw [hg]; exact Nat.ne_of_lt (blk_lt (g := gb992) (o := .cells #[.slice none 0 0, .slice none 0 0] 94 (0, 0)) (bk_ BK992)) : gb992 ≠ gb993)); have n9_ := Aside0.mk ((by rw [hg]; exact Nat.ne_of_gt (blk_lt (g := gb992) (o := .cells #[.slice none 0 0, .slice none 0 0] 94 (0, 0)) (bk_ BK992)) : gb993 ≠ gb992)); clear BK991; clear BK992; clear HB; have BK991 := n0_; have BK992 := n1_; have HB := n2_; have BK993 := n3_; have GW993 := n4_; have GE993 := n5_; have NB991_993 := n6_; have NB993_991 := n7_; have NB992_993 := n8_; have NB993_992 := n9_; clear n0_ n1_ n2_ n3_ n4_ n5_ n6_ n7_ n8_ n9_; clear hb hbox hg; have hnb6 := NB993_991.out; have hnc6 := NB991_993.out; have hnb7 := NB993_992.out; have hnc7 := NB992_993.out; have hcz8_0 : w5.cell? ⟨gb993, 0, none⟩ = some (.slice none 0 0) := (blk_cell BK993.out 0).trans rfl; have hcz8_1 : w5.cell? ⟨gb993, 1, none⟩ = some (.slice none 0 0) := (blk_cell BK993.out 1).trans rfl; have hfz8_0 := blk_frozen BK993.out 0; have hfz8_1 := blk_frozen BK993.out 1; have hnb9 := NB991_992.out; have hnc9 := NB992_991.out; have hcz10_0 : w5.cell? ⟨gb991, 0, none⟩ = some (.slice A0_0 l0_0.length c0_0) := (blk_cell BK991.out 0).trans rfl; have hcz10_1 : w5.cell? ⟨gb991, 1, none⟩ = some (.slice A0_1 l0_1.length c0_1) := (blk_cell BK991.out 1).trans rfl; have hfz10_0 := blk_frozen BK991.out 0; have hfz10_1 := blk_frozen BK991.out 1) | ((with_reducible refine gate_builtin (b := .append) (xs := #[.tmp 6, .tmp 8]) rfl ?_); at_builtin; refine Kd.R_append_rows k106 (w0 := w) w.heap.size rfl (.tmp 6) (.tmp 8) 91 106 (.agg #[(.string ⟨#[]⟩), (.int .i64 0)]) 24 rfl Try.underlying91 info106 rfl (by decide) (by omega) (.slice none 0 0) ([] : List (S106)) l0_0 _ _ _ (fun _ => True) (fun _ => False) rfl rfl ?aO ?aR (fun _ _ h => h) (fun _ h => h.elim) ?aF ?aB ?aS ?aL ?_; (case aR => repeat (first | exact (Kd.C_below HR0_0.out HB.out) | (with_reducible refine Kd.C_alloc ?_ _) | (with_reducible refine Kd.C_drewN ?_ _) | (with_reducible refine Kd.C_drew ?_))); (case aB => exact bel_); (case aF => exact (fun _ _ => trivial)); (case aO => exact ((Kd.R_nil _ _ _ _ (fun _ => True)))); (case aS => exact (below_size bel_)); (case aL => have := LMc2.out; omega); intro v995 w11 ho hb hg hat; rw [← Ny994.out] at ho; have n0_ := Aside0.mk (blk_grown (g := gb991) (o := .cells #[.slice A0_0 l0_0.length c0_0, .slice A0_1 l0_1.length c0_1] 94 (0, 0)) (bk_ BK991) hg (by simp [Value.ownBlock])); have n1_ := Aside0.mk (blk_grown (g := gb992) (o := .cells #[.slice none 0 0, .slice none 0 0] 94 (0, 0)) (bk_ BK992) hg (by simp [Value.ownBlock])); have n2_ := Aside0.mk (blk_grown (g := gb993) (o := .cells #[.slice none 0 0, .slice none 0 0] 94 (0, 0)) (bk_ BK993) hg (by simp [Value.ownBlock])); have n3_ := Aside0.mk (hb); have n4_ := Aside0.mk (ho); clear BK991; clear BK992; clear BK993; clear HB; have BK991 := n0_; have BK992 := n1_; have BK993 := n2_; have HB := n3_; have HO996 := n4_; clear n0_ n1_ n2_ n3_ n4_; clear ho hb hg hat; obtain ⟨Ao12, co12, eo12⟩ := Kd.R_slice HO996.out; subst eo12; have hcz13_0 : w11.cell? ⟨gb993, 0, none⟩ = some (.slice none 0 0) := (blk_cell BK993.out 0).trans rfl; have hcz13_1 : w11.cell? ⟨gb993, 1, none⟩ = some (.slice none 0 0) := (blk_cell BK993.out 1).trans rfl; have hfz13_0 := blk_frozen BK993.out 0; have hfz13_1 := blk_frozen BK993.out 1))
  go_loopg [4] k (fun kq v4 w' => ∃ (x4_1 : Int) (x994001_1 : List (S108)) (u994001 : Value), v4 = .int .i64 x4_1 ∧ Aside0 (sequentref04_Twin.l0 kq x4_1 l0_0 l0_1 y994 x994001_1 = some (r1, r2)) ∧ Aside0 (kq ≤ k) ∧ Aside0 (Kd.R k106 106 w' w.heap.size (fun _ => True) (.slice Ao12 y994.length co12) y994) ∧ Aside0 (Kd.R k108 108 w' w.heap.size (fun _ => True) u994001 x994001_1) ∧ Aside0 (w'.heap[gb991]? = some (.cells #[(.slice A0_0 l0_0.length c0_0), (.slice A0_1 l0_1.length c0_1)] 94 (0, 0))) ∧ Aside0 (w'.heap[gb992]? = some (.cells #[(.slice none 0 0), (.slice none 0 0)] 94 (0, 0))) ∧ Aside0 (w'.heap[gb993]? = some (.cells #[(.slice Ao12 y994.length co12), u994001] 94 (0, 0))) ∧ Aside0 (Below w.heap.size w w'))
  case atStart => exact ⟨(0), (([] : List (S108))), (.slice none 0 0), (by first | rfl | (simp; done) | (simp [*]; done)), H', ⟨Nat.le_refl _⟩, ⟨by (with_reducible repeat (first | apply Kd.R_alloc | apply Kd.R_drewN | apply Kd.R_drew)); exact Kd.R_mono (Kd.R_far (p := ⟨gb993, 0, none⟩) (Kd.R_types HO996.out BK993.out (by decide)) (fun _ hk => hk.2) (.slice Ao12 y994.length co12)) (fun _ hk => trivial)⟩, ⟨by first | exact Kd.R_nil _ _ _ _ _ | exact Kd.N_nil _ _ _ _ _ | exact Kd.V_nil _ _ _ _ _ | exact Kd.Q_nil _ _ _ _ _ | exact Kd.S_nil _ _ _ _ _⟩, ⟨by (with_reducible repeat (first | refine blk_drewN ?_ _ | refine blk_drew ?_ | refine blk_alloc ?_ _)); refine blk_far ?_ NB991_993.out _; (with_reducible repeat (first | refine blk_drewN ?_ _ | refine blk_drew ?_ | refine blk_alloc ?_ _)); exact BK991.out⟩, ⟨by (with_reducible repeat (first | refine blk_drewN ?_ _ | refine blk_drew ?_ | refine blk_alloc ?_ _)); refine blk_far ?_ NB992_993.out _; (with_reducible repeat (first | refine blk_drewN ?_ _ | refine blk_drew ?_ | refine blk_alloc ?_ _)); exact BK992.out⟩, ⟨by (with_reducible repeat (first | refine blk_drewN ?_ _ | refine blk_drew ?_ | refine blk_alloc ?_ _)); refine blk_put (cs := #[.slice none 0 0, .slice none 0 0]) ?_ 0 _ rfl; (with_reducible repeat (first | refine blk_drewN ?_ _ | refine blk_drew ?_ | refine blk_alloc ?_ _)); exact BK993.out⟩, ⟨bel_⟩⟩
  case round =>
   clear H'
   try clear c2
   try clear p2
   try clear c6
   try clear c7
   try clear c9
   try clear hcz10_0
   try clear hcz10_1
   try clear hcz13_0
   try clear hcz13_1
   try clear hcz8_0
   try clear hcz8_1
   try clear hfz10_0
   try clear hfz10_1
   try clear hfz13_0
   try clear hfz13_1
   try clear hfz8_0
   try clear hfz8_1
   obtain ⟨x4_1, x994001_1, u994001, rfl, HA, HK1, HO_994000, HO_994001, BK991, BK992, BK993, HB⟩ := hrel
   cases gk with
   | zero => exact absurd HA.out (by simp [sequentref04_Twin.l0])
   | succ k1 =>
    have H := HA.out
    clear HA
    simp only [sequentref04_Twin.l0] at H
    by_cases c14 : x4_1 < (l0_1.length : Int)
    ·rw [if_pos c14] at H
     have c14b0 : decide (x4_1 < (l0_1.length : Int)) = true := decide_eq_true c14
     clear c14
     by_cases c15 : 0 ≤ x4_1
     ·rw [if_pos c15] at H
      have c15b0 : decide (0 ≤ x4_1) = true := decide_eq_true c15
      clear c15
      replace H := Option.bind_eq_some_iff.mp H
      obtain ⟨⟨t999, t1000, t1001⟩, A160, H⟩ := H
      replace H : (if x994001_1.length < 2199023255552 then (sequentref04_Twin.l0 k1 (wrap64 (x4_1 + 1)) l0_0 l0_1 y994 (x994001_1 ++ [(⟨(rd_T108 l0_1 x4_1).f0, (⟨t999, t1000, t1001⟩ : S24)⟩ : S108)])) else (none)) = some (r1, r2) := H
      have A16 := Aside0.mk A160
      clear A160
      by_cases c17 : x994001_1.length < 2199023255552
      ·rw [if_pos c17] at H
       have LMc17 := Aside0.mk c17
       clear c17
       obtain ⟨y1004, hy1004⟩ : ∃ y_ : List (S108), y_ = (x994001_1 ++ [(⟨(rd_T108 l0_1 x4_1).f0, (⟨t999, t1000, t1001⟩ : S24)⟩ : S108)]) := ⟨_, rfl⟩
       replace H : (sequentref04_Twin.l0 k1 (wrap64 (x4_1 + 1)) l0_0 l0_1 y994 y1004) = some (r1, r2) := by first | (rw [hy1004]; with_reducible exact H) | (have H2_ := (Option.bind_some _ _).symm.trans H; rw [hy1004]; with_reducible exact H2_) | (have H2_ := (Option.bind_some _ _).symm.trans H; with_reducible exact H2_) | with_reducible exact H | (rw [hy1004]; exact H) | exact H
       have Ny1004 := Aside0.mk hy1004
       clear hy1004
       have H' := Aside0.mk H
       clear H
       have hnb18 := NB991_992.out
       have hnc18 := NB992_991.out
       have hnb19 := NB991_993.out
       have hnc19 := NB993_991.out
       have hcz20_0 : wr.cell? ⟨gb991, 0, none⟩ = some (.slice A0_0 l0_0.length c0_0) := (blk_cell BK991.out 0).trans rfl
       have hcz20_1 : wr.cell? ⟨gb991, 1, none⟩ = some (.slice A0_1 l0_1.length c0_1) := (blk_cell BK991.out 1).trans rfl
       have hfz20_0 := blk_frozen BK991.out 0
       have hfz20_1 := blk_frozen BK991.out 1
       try go_wp2
       have n0_ := Aside0.mk (Kd.R_drew HO_994000.out)
       have n1_ := Aside0.mk (Kd.R_drew HO_994001.out)
       have n2_ := Aside0.mk (blk_drew BK991.out)
       have n3_ := Aside0.mk (blk_drew BK992.out)
       have n4_ := Aside0.mk (blk_drew BK993.out)
       have n5_ := Aside0.mk (below_drew1 HB.out)
       clear HO_994000
       clear HO_994001
       clear BK991
       clear BK992
       clear BK993
       clear HB
       have HO_994000 := n0_
       have HO_994001 := n1_
       have BK991 := n2_
       have BK992 := n3_
       have BK993 := n4_
       have HB := n5_
       clear n0_ n1_ n2_ n3_ n4_ n5_
       have p997 : 0 ≤ (x4_1 : Int) := dq_
       have q997 : x4_1 < (l0_1.length : Int) := dq_
       obtain ⟨ad997, A997_3, c997_3, e997, hx997_0, hx997_1, hx997_2, hx997_3, hl997_3, hi997_3⟩ := at_T108 HR0_1.out x4_1 p997 q997
       have hw997_3 := hx997_3
       have hw997_2 := hx997_2
       have hw997_1 := hx997_1
       have hw997_0 := hx997_0
       cases e997
       replace hx997_0 := pw_cell_below HB.out hx997_0
       replace hx997_1 := pw_cell_below HB.out hx997_1
       replace hx997_2 := pw_cell_below HB.out hx997_2
       replace hx997_3 := pw_cell_below HB.out hx997_3
       have HR997_3 := Aside0.mk hi997_3
       have HC997_3 := Aside0.mk hl997_3
       clear hi997_3 hl997_3
       replace p997 := eq_true p997
       replace q997 := eq_true q997
       have p998 : 0 ≤ (x4_1 : Int) := dq_
       have q998 : x4_1 < (l0_1.length : Int) := dq_
       obtain ⟨ad998, A998_3, c998_3, e998, hx998_0, hx998_1, hx998_2, hx998_3, hl998_3, hi998_3⟩ := at_T108 HR0_1.out x4_1 p998 q998
       have hw998_3 := hx998_3
       have hw998_2 := hx998_2
       have hw998_1 := hx998_1
       have hw998_0 := hx998_0
       obtain rfl : ad997 = ad998 := (by injection e998)
       replace hx998_0 := pw_cell_below HB.out hx998_0
       replace hx998_1 := pw_cell_below HB.out hx998_1
       replace hx998_2 := pw_cell_below HB.out hx998_2
       replace hx998_3 := pw_cell_below HB.out hx998_3
       have HR998_3 := Aside0.mk hi998_3
       have HC998_3 := Aside0.mk hl998_3
       clear hi998_3 hl998_3
       replace p998 := eq_true p998
       replace q998 := eq_true q998
       have ea_ := Option.some.inj (hx997_3.symm.trans hx998_3)
       injection ea_ with ea_ en_ ec_
       subst ea_
       subst ec_
       clear en_
       refine start_ (n := 20) (S := fun w' => w'.cell? ⟨gb993, 0, none⟩ = some (.slice Ao12 y994.length co12) ∧ w'.cell? ⟨gb993, 1, none⟩ = some (u994001) ∧ w'.cell? ⟨gb991, 0, none⟩ = some (.slice A0_0 l0_0.length c0_0) ∧ w'.cell? ⟨gb991, 1, none⟩ = some (.slice (some ad997) l0_1.length c0_1) ∧ w'.cell? (ad997.add ((x4_1).toNat * 4)) = some (.string ((rd_T108 l0_1 x4_1).f0)) ∧ w'.cell? ⟨(ad997.add ((x4_1).toNat * 4)).block, (ad997.add ((x4_1).toNat * 4)).off + 1, none⟩ = some (.bool ((rd_T108 l0_1 x4_1).f1.f0)) ∧ w'.cell? ⟨(ad997.add ((x4_1).toNat * 4)).block, (ad997.add ((x4_1).toNat * 4)).off + 2, none⟩ = some (.string ((rd_T108 l0_1 x4_1).f1.f1)) ∧ w'.cell? ⟨(ad997.add ((x4_1).toNat * 4)).block, (ad997.add ((x4_1).toNat * 4)).off + 3, none⟩ = some (.slice A997_3 ((rd_T108 l0_1 x4_1).f1.f2).length c997_3) ∧ w'.cell? (ad997.add ((x4_1).toNat * 4)) = some (.string ((rd_T108 l0_1 x4_1).f0)) ∧ w'.cell? ⟨(ad997.add ((x4_1).toNat * 4)).block, (ad997.add ((x4_1).toNat * 4)).off + 1, none⟩ = some (.bool ((rd_T108 l0_1 x4_1).f1.f0)) ∧ w'.cell? ⟨(ad997.add ((x4_1).toNat * 4)).block, (ad997.add ((x4_1).toNat * 4)).off + 2, none⟩ = some (.string ((rd_T108 l0_1 x4_1).f1.f1)) ∧ w'.cell? ⟨(ad997.add ((x4_1).toNat * 4)).block, (ad997.add ((x4_1).toNat * 4)).off + 3, none⟩ = some (.slice A997_3 ((rd_T108 l0_1 x4_1).f1.f2).length c997_3)) (ds := [19]) #[false, false, false, false, false, false, false, false, false, false, false, false, false, false, false, false, false, false, false, false] (by kernel_rfl) rfl rfl ⟨(blk_cell BK993.out 0).trans rfl, (blk_cell BK993.out 1).trans rfl, (blk_cell BK991.out 0).trans rfl, (blk_cell BK991.out 1).trans rfl, (pw_cell_below HB.out hw997_0), (pw_cell_below HB.out hw997_1), (pw_cell_below HB.out hw997_2), (pw_cell_below HB.out hw997_3), (pw_cell_below HB.out hw998_0), (pw_cell_below HB.out hw998_1), (pw_cell_below HB.out hw998_2), (pw_cell_below HB.out hw998_3)⟩ (fun hHeld => ?_); refine with_tabW sequentref04_Twin.tab6 sequentref04_Twin.bits6 (fun HT_ HW_ => ?_)
       generalize wr.drew = w21 at HO_994000 HO_994001 BK991 BK992 BK993 HB HR997_3 HR998_3 hx997_0 hx997_1 hx997_2 hx997_3 hx998_0 hx998_1 hx998_2 hx998_3 hHeld ⊢
       refine pure_ (i := 0) (N := some 18) (v := ?_) (a' := ?_) #[true, false, false, false, false, false, false, false, false, false, false, false, false, false, false, false, false, false, false, false] rfl rfl (any_of HT_.out (by kernel_rfl)) (fun _ _ _ h => h) (Or.inl ⟨by rfl, ?_⟩) ?_ ?_
       rotate_left
       ·intro w'
        go_simp
        with_reducible rfl
       rotate_left
       ·simp only [Act.put, List.setIfInBounds_toArray, List.set_cons_zero, List.set_cons_succ, i64_w, i32_w]
        rfl
       refine pure_ (i := 2) (N := some 20) (v := ?_) (a' := ?_) #[true, false, true, false, false, false, false, false, false, false, false, false, false, false, false, false, false, false, false, false] rfl rfl (any_of HT_.out (by kernel_rfl)) (fun _ _ _ h => h) (Or.inl ⟨by rfl, ?_⟩) ?_ ?_
       rotate_left
       ·intro w'
        go_simp
        with_reducible rfl
       rotate_left
       ·simp only [Act.put, List.setIfInBounds_toArray, List.set_cons_zero, List.set_cons_succ, i64_w, i32_w]
        rfl
       refine pure_ (i := 4) (N := some 22) (v := ?_) (a' := ?_) #[true, false, true, false, true, false, false, false, false, false, false, false, false, false, false, false, false, false, false, false] rfl rfl (any_of HT_.out (by kernel_rfl)) (fun _ _ _ h => h) (Or.inl ⟨by rfl, ?_⟩) ?_ ?_
       rotate_left
       ·intro w'
        go_simp
        with_reducible rfl
       rotate_left
       ·simp only [Act.put, List.setIfInBounds_toArray, List.set_cons_zero, List.set_cons_succ, i64_w, i32_w]
        rfl
       refine pure_ (i := 8) (N := some 26) (v := ?_) (a' := ?_) #[true, false, true, false, true, false, false, false, true, false, false, false, false, false, false, false, false, false, false, false] rfl rfl (any_of HT_.out (by kernel_rfl)) (fun _ _ _ h => h) (Or.inl ⟨by rfl, ?_⟩) ?_ ?_
       rotate_left
       ·intro w'
        go_simp
        with_reducible rfl
       rotate_left
       ·simp only [Act.put, List.setIfInBounds_toArray, List.set_cons_zero, List.set_cons_succ, i64_w, i32_w]
        rfl
       refine pure_ (i := 10) (N := some 28) (v := ?_) (a' := ?_) #[true, false, true, false, true, false, false, false, true, false, true, false, false, false, false, false, false, false, false, false] rfl rfl (any_of HT_.out (by kernel_rfl)) (fun _ _ _ h => h) (Or.inl ⟨by rfl, ?_⟩) ?_ ?_
       rotate_left
       ·intro w'
        go_simp
        with_reducible rfl
       rotate_left
       ·simp only [Act.put, List.setIfInBounds_toArray, List.set_cons_zero, List.set_cons_succ, i64_w, i32_w]
        rfl
       refine take_ (i := 1) (N := some 19) (v := ?_) (a' := ?_) #[true, true, true, false, true, false, false, false, true, false, true, false, false, false, false, false, false, false, false, false] rfl rfl (take_ofW HT_.out HW_.out (by kernel_rfl)) (fun _ _ _ h => h) (Or.inl ⟨by rfl, ?_⟩) hHeld ?_ ?_
       rotate_left
       ·rintro w' ⟨s0, s1, s2, s3, s4, s5, s6, s7, s8, s9, s10, s11⟩
        go_simp
        with_reducible rfl
       rotate_left
       ·simp only [Act.put, List.setIfInBounds_toArray, List.set_cons_zero, List.set_cons_succ, i64_w, i32_w]
        rfl
       refine take_ (i := 3) (N := some 21) (v := ?_) (a' := ?_) #[true, true, true, true, true, false, false, false, true, false, true, false, false, false, false, false, false, false, false, false] rfl rfl (take_ofW HT_.out HW_.out (by kernel_rfl)) (fun _ _ _ h => h) (Or.inl ⟨by rfl, ?_⟩) hHeld ?_ ?_
       rotate_left
       ·rintro w' ⟨s0, s1, s2, s3, s4, s5, s6, s7, s8, s9, s10, s11⟩
        go_simp
        with_reducible rfl
       rotate_left
       ·simp only [Act.put, List.setIfInBounds_toArray, List.set_cons_zero, List.set_cons_succ, i64_w, i32_w]
        rfl
       refine pure_ (i := 5) (N := some 23) (v := ?_) (a' := ?_) #[true, true, true, true, true, true, false, false, true, false, true, false, false, false, false, false, false, false, false, false] rfl rfl (any_of HT_.out (by kernel_rfl)) (fun _ _ _ h => h) (Or.inl ⟨by rfl, ?_⟩) ?_ ?_
       rotate_left
       ·intro w'
        go_simp
        with_reducible rfl
       rotate_left
       ·simp only [Act.put, List.setIfInBounds_toArray, List.set_cons_zero, List.set_cons_succ, i64_w, i32_w]
        rfl
       refine pure_ (i := 6) (N := some 24) (v := ?_) (a' := ?_) #[true, true, true, true, true, true, true, false, true, false, true, false, false, false, false, false, false, false, false, false] rfl rfl (any_of HT_.out (by kernel_rfl)) (fun _ _ _ h => h) (Or.inl ⟨by rfl, ?_⟩) ?_ ?_
       rotate_left
       ·intro w'
        go_simp
        with_reducible rfl
       rotate_left
       ·simp only [Act.put, List.setIfInBounds_toArray, List.set_cons_zero, List.set_cons_succ, i64_w, i32_w]
        rfl
       refine take_ (i := 7) (N := some 25) (v := ?_) (a' := ?_) #[true, true, true, true, true, true, true, true, true, false, true, false, false, false, false, false, false, false, false, false] rfl rfl (take_ofW HT_.out HW_.out (by kernel_rfl)) (fun _ _ _ h => h) (Or.inl ⟨by rfl, ?_⟩) hHeld ?_ ?_
       rotate_left
       ·rintro w' ⟨s0, s1, s2, s3, s4, s5, s6, s7, s8, s9, s10, s11⟩
        go_simp
        with_reducible rfl
       rotate_left
       ·simp only [Act.put, List.setIfInBounds_toArray, List.set_cons_zero, List.set_cons_succ, i64_w, i32_w]
        rfl
       refine take_ (i := 9) (N := some 27) (v := ?_) (a' := ?_) #[true, true, true, true, true, true, true, true, true, true, true, false, false, false, false, false, false, false, false, false] rfl rfl (take_ofW HT_.out HW_.out (by kernel_rfl)) (fun _ _ _ h => h) (Or.inl ⟨by rfl, ?_⟩) hHeld ?_ ?_
       rotate_left
       ·rintro w' ⟨s0, s1, s2, s3, s4, s5, s6, s7, s8, s9, s10, s11⟩
        go_simp
        with_reducible rfl
       rotate_left
       ·simp only [Act.put, List.setIfInBounds_toArray, List.set_cons_zero, List.set_cons_succ, i64_w, i32_w]
        rfl
       refine pure_ (i := 11) (N := some 29) (v := ?_) (a' := ?_) #[true, true, true, true, true, true, true, true, true, true, true, true, false, false, false, false, false, false, false, false] rfl rfl (any_of HT_.out (by kernel_rfl)) (fun _ _ _ h => h) (Or.inl ⟨by rfl, ?_⟩) ?_ ?_
       rotate_left
       ·intro w'
        go_simp
        with_reducible rfl
       rotate_left
       ·simp only [Act.put, List.setIfInBounds_toArray, List.set_cons_zero, List.set_cons_succ, i64_w, i32_w]
        rfl
       refine pure_ (i := 12) (N := some 30) (v := ?_) (a' := ?_) #[true, true, true, true, true, true, true, true, true, true, true, true, true, false, false, false, false, false, false, false] rfl rfl (any_of HT_.out (by kernel_rfl)) (fun _ _ _ h => h) (Or.inl ⟨by rfl, ?_⟩) ?_ ?_
       rotate_left
       ·intro w'
        go_simp
        with_reducible rfl
       rotate_left
       ·simp only [Act.put, List.setIfInBounds_toArray, List.set_cons_zero, List.set_cons_succ, i64_w, i32_w]
        rfl
       refine take_ (i := 13) (N := some 31) (v := ?_) (a' := ?_) #[true, true, true, true, true, true, true, true, true, true, true, true, true, true, false, false, false, false, false, false] rfl rfl (take_ofW HT_.out HW_.out (by kernel_rfl)) (fun _ _ _ h => h) (Or.inl ⟨by rfl, ?_⟩) hHeld ?_ ?_
       rotate_left
       ·rintro w' ⟨s0, s1, s2, s3, s4, s5, s6, s7, s8, s9, s10, s11⟩
        go_simp
        with_reducible rfl
       rotate_left
       ·simp only [Act.put, List.setIfInBounds_toArray, List.set_cons_zero, List.set_cons_succ, i64_w, i32_w]
        rfl
       refine one_ (i := 14) (N := some 32) #[true, true, true, true, true, true, true, true, true, true, true, true, true, true, true, false, false, false, false, false] rfl rfl (one_of HT_.out (by kernel_rfl)) (by decide) (fun K hK => ?_)
       refine goes_ Try.func97 (by kernel_rfl) rfl #[.agg #[.bool ((rd_T108 l0_1 x4_1).f1.f0), .string ((rd_T108 l0_1 x4_1).f1.f1), .slice A997_3 ((rd_T108 l0_1 x4_1).f1.f2).length c997_3]] (by rfl) rfl rfl (by (try simp only [List.map_toArray, List.map_cons, List.map_nil]); first | done | rfl | (simp only [List.length_drop, List.length_take]; rfl)) ?_
       with_reducible refine (sequentref01_Twin.calls k1 ((rd_T108 l0_1 x4_1).f1.f0) ((rd_T108 l0_1 x4_1).f1.f1) _ _ ((rd_T108 l0_1 x4_1).f1.f2) t999 t1000 t1001 _ ?side1 ?side2 A16.out).mono ?_
       (case side1 => repeat (first | exact (Kd.C_below HR998_3.out HB.out) | (with_reducible refine Kd.C_alloc ?_ _) | (with_reducible refine Kd.C_drewN ?_ _) | (with_reducible refine Kd.C_drew ?_)))
       (case side2 => exact HC998_3.out)
       rintro e w22 ⟨v1002, rfl, ho0, hb⟩
       refine ⟨_, rfl, ?_⟩
       have n0_ := Aside0.mk (Kd.R_below (by (with_reducible repeat (first | apply Kd.R_alloc | apply Kd.R_drewN | apply Kd.R_drew)); exact HO_994000.out) hb)
       have n1_ := Aside0.mk (Kd.R_elder' (by (with_reducible repeat (first | apply Kd.R_alloc | apply Kd.R_drewN | apply Kd.R_drew)); exact HO_994001.out) (Kd.R_base ho0) hb)
       have n2_ := Aside0.mk (Kd.R_lower ho0 (below_size bel_))
       have n3_ := Aside0.mk (blk_below (g := gb991) (o := .cells #[.slice A0_0 l0_0.length c0_0, .slice (some ad997) l0_1.length c0_1] 94 (0, 0)) (bk_ BK991) hb)
       have n4_ := Aside0.mk (blk_below (g := gb992) (o := .cells #[.slice none 0 0, .slice none 0 0] 94 (0, 0)) (bk_ BK992) hb)
       have n5_ := Aside0.mk (blk_below (g := gb993) (o := .cells #[.slice Ao12 y994.length co12, u994001] 94 (0, 0)) (bk_ BK993) hb)
       have n6_ := Aside0.mk (below_step bel_ hb)
       clear HO_994000
       clear HO_994001
       clear BK991
       clear BK992
       clear BK993
       clear HB
       have HO_994000 := n0_
       have HO_994001 := n1_
       have HO1003 := n2_
       have BK991 := n3_
       have BK992 := n4_
       have BK993 := n5_
       have HB := n6_
       clear n0_ n1_ n2_ n3_ n4_ n5_ n6_
       (try clear hb)
       (try clear hb2)
       (try clear hk)
       (try clear hi)
       (try clear ho0)
       obtain ⟨Ao23, co23, eo23⟩ := Kd.R_slice HO1003.out
       (first | subst eo23 | (injection eo23 with f1_ f2_ f3_; have f4_ := f1_.symm; have f5_ := f3_.symm; clear f1_ f2_ f3_; subst f4_; subst f5_))
       refine hK.out _ _ ⟨(blk_cell BK993.out 0).trans rfl, (blk_cell BK993.out 1).trans rfl, (blk_cell BK991.out 0).trans rfl, (blk_cell BK991.out 1).trans rfl, (pw_cell_below HB.out hw997_0), (pw_cell_below HB.out hw997_1), (pw_cell_below HB.out hw997_2), (pw_cell_below HB.out hw997_3), (pw_cell_below HB.out hw998_0), (pw_cell_below HB.out hw998_1), (pw_cell_below HB.out hw998_2), (pw_cell_below HB.out hw998_3)⟩ (fun hHeld => ?_)
       clear hK K
       refine norm_ (a' := ?_) ?_ ?_
       rotate_left
       ·show Act.put _ (some 32) _ = _
        simp only [Act.put, List.setIfInBounds_toArray, List.set_cons_zero, List.set_cons_succ, i64_w, i32_w]
        rfl
       refine pure_ (i := 15) (N := some 33) (v := ?_) (a' := ?_) #[true, true, true, true, true, true, true, true, true, true, true, true, true, true, true, true, false, false, false, false] rfl rfl (any_of HT_.out (by kernel_rfl)) (fun _ _ _ h => h) (Or.inl ⟨by rfl, ?_⟩) ?_ ?_
       rotate_left
       ·intro w'
        go_simp
        with_reducible rfl
       rotate_left
       ·simp only [Act.put, List.setIfInBounds_toArray, List.set_cons_zero, List.set_cons_succ, i64_w, i32_w]
        rfl
       refine one_ (i := 16) (N := some 34) #[true, true, true, true, true, true, true, true, true, true, true, true, true, true, true, true, true, false, false, false] rfl rfl (one_of HT_.out (by kernel_rfl)) (by decide) (fun K hK => ?_)
       refine value_ (w1 := ?_) (v := ?_) (by rfl) rfl ?_ ?_
       rotate_left 2
       ·go_simp
        constructor
        ·rfl
        ·rfl
       refine hK.out _ _ ⟨(blk_cell (blk_alloc BK993.out _) 0).trans rfl, (blk_cell (blk_alloc BK993.out _) 1).trans rfl, (blk_cell (blk_alloc BK991.out _) 0).trans rfl, (blk_cell (blk_alloc BK991.out _) 1).trans rfl, (World.cell?_alloc_lt _ _ _ (World.block_lt_of_cell? _ _ ((pw_cell_below HB.out hw997_0)))).trans ((pw_cell_below HB.out hw997_0)), (World.cell?_alloc_lt _ _ _ (World.block_lt_of_cell? _ _ ((pw_cell_below HB.out hw997_1)))).trans ((pw_cell_below HB.out hw997_1)), (World.cell?_alloc_lt _ _ _ (World.block_lt_of_cell? _ _ ((pw_cell_below HB.out hw997_2)))).trans ((pw_cell_below HB.out hw997_2)), (World.cell?_alloc_lt _ _ _ (World.block_lt_of_cell? _ _ ((pw_cell_below HB.out hw997_3)))).trans ((pw_cell_below HB.out hw997_3)), (World.cell?_alloc_lt _ _ _ (World.block_lt_of_cell? _ _ ((pw_cell_below HB.out hw998_0)))).trans ((pw_cell_below HB.out hw998_0)), (World.cell?_alloc_lt _ _ _ (World.block_lt_of_cell? _ _ ((pw_cell_below HB.out hw998_1)))).trans ((pw_cell_below HB.out hw998_1)), (World.cell?_alloc_lt _ _ _ (World.block_lt_of_cell? _ _ ((pw_cell_below HB.out hw998_2)))).trans ((pw_cell_below HB.out hw998_2)), (World.cell?_alloc_lt _ _ _ (World.block_lt_of_cell? _ _ ((pw_cell_below HB.out hw998_3)))).trans ((pw_cell_below HB.out hw998_3))⟩ (fun hHeld => ?_)
       clear hK K
       refine norm_ (a' := ?_) ?_ ?_
       rotate_left
       ·show Act.put _ (some 34) _ = _
        simp only [Act.put, List.setIfInBounds_toArray, List.set_cons_zero, List.set_cons_succ, i64_w, i32_w]
        rfl
       refine one_ (i := 17) (N := some 35) #[true, true, true, true, true, true, true, true, true, true, true, true, true, true, true, true, true, true, false, false] rfl rfl (one_of HT_.out (by kernel_rfl)) (by decide) (fun K hK => ?_)
       refine Kd.R_append_step k108 (w0 := w) w.heap.size (by rfl) (.tmp 19) (.tmp 34) 92 108 (.agg #[(.string ⟨#[]⟩), (.bool false), (.string ⟨#[]⟩), (.slice none 0 0)]) 64 rfl Try.underlying92 info108 rfl (by decide) (by omega) u994001 x994001_1 (⟨(rd_T108 l0_1 x4_1).f0, (⟨t999, t1000, t1001⟩ : S24)⟩ : S108) [.string ((rd_T108 l0_1 x4_1).f0), .bool t999, .string t1000, .slice Ao23 t1001.length co23] (fun _ => True) (fun k_ => ((fun _ => True)) k_ ∧ some k_ ≠ (u994001 : Value).ownBlock) rfl rfl ?aP (fun _ hk => hk) ?aF ?aO ?aB ?aS ?aL ?_
       (case aP => exact k108_mkM _ _ _ (⟨(rd_T108 l0_1 x4_1).f0, (⟨t999, t1000, t1001⟩ : S24)⟩ : S108) (Kd.R_mono (Kd.R_apart' (HO1003.out) (Kd.R_typed HO_994001.out) (by decide)) (fun k_ hk => ⟨trivial, hk.2⟩)))
       (case aB => exact bel_)
       (case aF => exact (fun _ _ => trivial))
       (case aO => exact (by (with_reducible repeat (first | apply Kd.R_alloc | apply Kd.R_drewN | apply Kd.R_drew)); exact Kd.R_mono HO_994001.out (fun _ hk => trivial)))
       (case aS => exact (below_size bel_))
       (case aL => have := LMc17.out; omega)
       intro v1005 w24 ho hb hg hat
       rw [← Ny1004.out] at ho
       have n0_ := Aside0.mk (Kd.R_over' (by (with_reducible repeat (first | apply Kd.R_alloc | apply Kd.R_drewN | apply Kd.R_drew)); exact HO_994000.out) (Kd.R_typed (by (with_reducible repeat (first | apply Kd.R_alloc | apply Kd.R_drewN | apply Kd.R_drew)); exact HO_994001.out)) (by decide) hg)
       have n1_ := Aside0.mk (blk_grown (g := gb991) (o := .cells #[.slice A0_0 l0_0.length c0_0, .slice (some ad997) l0_1.length c0_1] 94 (0, 0)) (bk_ BK991) hg (Kd.R_ne HO_994001.out BK991.out (by decide)))
       have n2_ := Aside0.mk (blk_grown (g := gb992) (o := .cells #[.slice none 0 0, .slice none 0 0] 94 (0, 0)) (bk_ BK992) hg (Kd.R_ne HO_994001.out BK992.out (by decide)))
       have n3_ := Aside0.mk (blk_grown (g := gb993) (o := .cells #[.slice Ao12 y994.length co12, u994001] 94 (0, 0)) (bk_ BK993) hg (Kd.R_ne HO_994001.out BK993.out (by decide)))
       have n4_ := Aside0.mk (hb)
       have n5_ := Aside0.mk (ho)
       clear HO_994000
       clear BK991
       clear BK992
       clear BK993
       clear HB
       clear HO_994001
       clear HO1003
       have HO_994000 := n0_
       have BK991 := n1_
       have BK992 := n2_
       have BK993 := n3_
       have HB := n4_
       have HO1006 := n5_
       clear n0_ n1_ n2_ n3_ n4_ n5_
       clear ho hb hg hat
       obtain ⟨Ao25, co25, eo25⟩ := Kd.R_slice HO1006.out
       (first | subst eo25 | (injection eo25 with f1_ f2_ f3_; have f4_ := f1_.symm; have f5_ := f3_.symm; clear f1_ f2_ f3_; subst f4_; subst f5_))
       refine hK.out _ _ ⟨(blk_cell BK993.out 0).trans rfl, (blk_cell BK993.out 1).trans rfl, (blk_cell BK991.out 0).trans rfl, (blk_cell BK991.out 1).trans rfl, (pw_cell_below HB.out hw997_0), (pw_cell_below HB.out hw997_1), (pw_cell_below HB.out hw997_2), (pw_cell_below HB.out hw997_3), (pw_cell_below HB.out hw998_0), (pw_cell_below HB.out hw998_1), (pw_cell_below HB.out hw998_2), (pw_cell_below HB.out hw998_3)⟩ (fun hHeld => ?_)
       clear hK K
       refine norm_ (a' := ?_) ?_ ?_
       rotate_left
       ·show Act.put _ (some 35) _ = _
        simp only [Act.put, List.setIfInBounds_toArray, List.set_cons_zero, List.set_cons_succ, i64_w, i32_w]
        rfl
       refine pure_ (i := 18) (N := some 36) (v := ?_) (a' := ?_) #[true, true, true, true, true, true, true, true, true, true, true, true, true, true, true, true, true, true, true, false] rfl rfl (any_of HT_.out (by kernel_rfl)) (fun _ _ _ h => h) (Or.inl ⟨by rfl, ?_⟩) ?_ ?_
       rotate_left
       ·intro w'
        go_simp
        with_reducible rfl
       rotate_left
       ·simp only [Act.put, List.setIfInBounds_toArray, List.set_cons_zero, List.set_cons_succ, i64_w, i32_w]
        rfl
       refine last_ (i := 19) (N := none) #[true, true, true, true, true, true, true, true, true, true, true, true, true, true, true, true, true, true, true, true] rfl rfl (one_of HT_.out (by kernel_rfl)) (by decide) (fun K hK => ?_)
       have hs26 : w24.cell? ⟨gb993, 1, none⟩ = some (u994001) := (blk_cell BK993.out 1).trans rfl
       have hfs26 := blk_frozen BK993.out 1
       have hns26_0 := NB991_993.out
       have hns26_1 := NB992_993.out
       have hms26_0 := NB993_991.out
       have hms26_1 := NB993_992.out
       refine skip_ (w1 := ?_) (by rfl) rfl ?_ ?_
       rotate_left
       ·go_simp
        rfl
       refine hK.out _ _ ?_
       clear hK K
       refine done_ (done_of HT_.out (by kernel_rfl)) ?_
       try go_wp2
       go_roundg k1
       case measure => have := HK1.out; omega
       case rel => exact ⟨(wrap64 (x4_1 + 1)), (y1004), (.slice Ao25 y1004.length co25), (by first | rfl | (simp; done) | (simp [*]; done)), H', ⟨by have := HK1.out; omega⟩, ⟨by (with_reducible repeat (first | apply Kd.R_alloc | apply Kd.R_drewN | apply Kd.R_drew)); exact Kd.R_mono (Kd.R_far (p := ⟨gb993, 1, none⟩) (Kd.R_types HO_994000.out BK993.out (by decide)) (fun _ hk => hk.2) (.slice Ao25 y1004.length co25)) (fun _ hk => trivial)⟩, ⟨by (with_reducible repeat (first | apply Kd.R_alloc | apply Kd.R_drewN | apply Kd.R_drew)); exact Kd.R_mono (Kd.R_far (p := ⟨gb993, 1, none⟩) (Kd.R_types HO1006.out BK993.out (by decide)) (fun _ hk => hk.2) (.slice Ao25 y1004.length co25)) (fun _ hk => trivial)⟩, ⟨by (with_reducible repeat (first | refine blk_drewN ?_ _ | refine blk_drew ?_ | refine blk_alloc ?_ _)); refine blk_far ?_ NB991_993.out _; (with_reducible repeat (first | refine blk_drewN ?_ _ | refine blk_drew ?_ | refine blk_alloc ?_ _)); exact BK991.out⟩, ⟨by (with_reducible repeat (first | refine blk_drewN ?_ _ | refine blk_drew ?_ | refine blk_alloc ?_ _)); refine blk_far ?_ NB992_993.out _; (with_reducible repeat (first | refine blk_drewN ?_ _ | refine blk_drew ?_ | refine blk_alloc ?_ _)); exact BK992.out⟩, ⟨by (with_reducible repeat (first | refine blk_drewN ?_ _ | refine blk_drew ?_ | refine blk_alloc ?_ _)); refine blk_put (cs := #[.slice Ao12 y994.length co12, u994001]) ?_ 1 _ rfl; (with_reducible repeat (first | refine blk_drewN ?_ _ | refine blk_drew ?_ | refine blk_alloc ?_ _)); exact BK993.out⟩, ⟨bel_⟩⟩
      ·rw [if_neg c17] at H
       exact absurd H (by simp)
     ·rw [if_neg c15] at H
      exact absurd H (by simp)
    ·rw [if_neg c14] at H
     have c14b0 : decide (x4_1 < (l0_1.length : Int)) = false := decide_eq_false c14
     clear c14
     simp only [Option.some.injEq, Prod.mk.injEq] at H
     obtain ⟨rfl, rfl⟩ := H
     have hnb27 := NB991_992.out
     have hnc27 := NB992_991.out
     have hnb28 := NB991_993.out
     have hnc28 := NB993_991.out
     have hcz29_0 : wr.cell? ⟨gb991, 0, none⟩ = some (.slice A0_0 l0_0.length c0_0) := (blk_cell BK991.out 0).trans rfl
     have hcz29_1 : wr.cell? ⟨gb991, 1, none⟩ = some (.slice A0_1 l0_1.length c0_1) := (blk_cell BK991.out 1).trans rfl
     have hfz29_0 := blk_frozen BK991.out 0
     have hfz29_1 := blk_frozen BK991.out 1
     have hnb30 := NB993_992.out
     have hnc30 := NB992_993.out
     have hcz31_0 : wr.cell? ⟨gb993, 0, none⟩ = some (.slice Ao12 y994.length co12) := (blk_cell BK993.out 0).trans rfl
     have hcz31_1 : wr.cell? ⟨gb993, 1, none⟩ = some (u994001) := (blk_cell BK993.out 1).trans rfl
     have hfz31_0 := blk_frozen BK993.out 0
     have hfz31_1 := blk_frozen BK993.out 1
     have hcz32_0 : wr.cell? ⟨gb992, 0, none⟩ = some (.slice none 0 0) := (blk_cell BK992.out 0).trans rfl
     have hcz32_1 : wr.cell? ⟨gb992, 1, none⟩ = some (.slice none 0 0) := (blk_cell BK992.out 1).trans rfl
     have hfz32_0 := blk_frozen BK992.out 0
     have hfz32_1 := blk_frozen BK992.out 1
     obtain ⟨Ao33, co33, eo33⟩ := Kd.R_slice HO_994001.out
     subst eo33
     go_wp2
     refine bodyPost_ret (results_cell_row rfl _ _ gb992 94 #[.slice Ao12 y994.length co12, .slice Ao33 x994001_1.length co33] (0, 0) _ rfl (by (with_reducible repeat (first | refine blk_drewN ?_ _ | refine blk_drew ?_ | refine blk_alloc ?_ _)); refine blk_put (cs := #[.slice Ao12 y994.length co12, .slice none 0 0]) ?_ 1 _ rfl; (with_reducible repeat (first | refine blk_drewN ?_ _ | refine blk_drew ?_ | refine blk_alloc ?_ _)); refine blk_put (cs := #[.slice none 0 0, .slice none 0 0]) ?_ 0 _ rfl; (with_reducible repeat (first | refine blk_drewN ?_ _ | refine blk_drew ?_ | refine blk_alloc ?_ _)); exact BK992.out) Try.underlying94 rfl (by kernel_rfl)) rfl ?_
     exact ⟨_, _, by first | rfl | (simp [errW_none, errW_some] <;> rfl) | (simp [*, errW_none, errW_some] <;> rfl), by (with_reducible repeat (first | apply Kd.R_alloc | apply Kd.R_drewN | apply Kd.R_drew)); exact Kd.R_mono (Kd.R_far (p := ⟨gb992, 1, none⟩) (Kd.R_far (p := ⟨gb992, 0, none⟩) (Kd.R_types HO_994000.out BK992.out (by decide)) (fun _ hk => hk.2) (.slice Ao12 y994.length co12)) (fun _ hk => hk.2) (.slice Ao33 x994001_1.length co33)) (fun _ hk => trivial), by (with_reducible repeat (first | apply Kd.R_alloc | apply Kd.R_drewN | apply Kd.R_drew)); exact Kd.R_mono (Kd.R_far (p := ⟨gb992, 1, none⟩) (Kd.R_far (p := ⟨gb992, 0, none⟩) (Kd.R_types HO_994001.out BK992.out (by decide)) (fun _ hk => hk.2) (.slice Ao12 y994.length co12)) (fun _ hk => hk.2) (.slice Ao33 x994001_1.length co33)) (fun _ hk => trivial), bel_⟩
 ·rw [if_neg c2] at H
  exact absurd H (by simp)

end Go.Proofs.Ytecplbgdalchdaa.Q
-- written by a program of this session (wip/tools/myprint.py) out of the translation
namespace Go.Proofs.Ytecplbgdalchdaa.Q
open Go.RowKit Go.Proofs.YtecplbgdalchdaaW.PrintWords Go.Proofs.YtecplbgdalchdaaW.PrintLast Go.Proofs.YtecplbgdalchdaaW.PrintMore
attribute [local go_sem] max2_int min2_int max_two min_two max_three min_three max_four min_four   -- for this text's walks alone
set_option linter.unusedVariables false
set_option linter.unusedSimpArgs false

/-! ### sequentref04_Const: function 74 -/
def sequentref04_Const.l0 : Nat → ByteArray → Int → List (S106) → List (S108) → Option (Bool × ByteArray × (List (S24)) × Bool)
 | 0, _, _, _, _ => none
 | k + 1, x1, x6, x1023000, x1023001 => if x6 < (x1023001.length : Int) then (if 0 ≤ x6 then (if ((rd_T108 x1023001 x6).f0).toList = x1.toList then ((sequentref01_Twin.f k ((rd_T108 x1023001 x6).f1.f0) ((rd_T108 x1023001 x6).f1.f1) ((rd_T108 x1023001 x6).f1.f2)).bind fun bt1026 => (some (bt1026.1, bt1026.2.1, bt1026.2.2, true))) else (sequentref04_Const.l0 k x1 (wrap64 (x6 + 1)) x1023000 x1023001)) else (none)) else (some (false, (⟨#[]⟩ : ByteArray), ([] : List (S24)), false))
def sequentref04_Const.f (k : Nat) (l0_0 : List (S106)) (l0_1 : List (S108)) (a1 : ByteArray) : Option (Bool × ByteArray × (List (S24)) × Bool) := sequentref04_Const.l0 k a1 0 l0_0 l0_1
set_option maxHeartbeats 8000000 in
set_option maxRecDepth 100000 in
theorem sequentref04_Const.calls (k : Nat) (A0_0 : Option Addr) (c0_0 : Nat) (l0_0 : List (S106)) (A0_1 : Option Addr) (c0_1 : Nat) (l0_1 : List (S108)) (a1 : ByteArray) (r1 : Bool) (r2 : ByteArray) (r3 : List (S24)) (r4 : Bool) (w : World) (hr0_0 : Kd.C k106 w A0_0 l0_0.length l0_0) (hc0_0 : l0_0.length ≤ c0_0) (hr0_1 : Kd.C k108 w A0_1 l0_1.length l0_1) (hc0_1 : l0_1.length ≤ c0_1) (h : sequentref04_Const.f k l0_0 l0_1 a1 = some (r1, r2, r3, r4)) :
 Calls Try.prog 74 #[.agg #[.slice A0_0 l0_0.length c0_0, .slice A0_1 l0_1.length c0_1], .string a1] w fun e w' => ∃ v2_ : Value, e = .returned (.tuple #[.agg #[.bool r1, .string r2, v2_], .bool r4]) ∧ Kd.R k24 24 w' w.heap.size (fun _ => True) v2_ r3 ∧ Below w.heap.size w w' := by
 have hu94 := Try.underlying94
 have hu24 := Try.underlying24
 have HR0_0 := Aside0.mk hr0_0
 have HC0_0 := Aside0.mk hc0_0
 clear hr0_0 hc0_0
 have HR0_1 := Aside0.mk hr0_1
 have HC0_1 := Aside0.mk hc0_1
 clear hr0_1 hc0_1
 have HB := Aside0.mk (Below.refl w.heap.size w)
 have H : (sequentref04_Const.l0 k a1 0 l0_0 l0_1) = some (r1, r2, r3, r4) := h
 clear h
 have H' := Aside0.mk H
 clear H
 go_enter Try.func74, Try.ntmps74
 go_wp2_with (first | ((with_reducible refine gate_dst (N := 2) rfl ?_); refine box_event ?hg (N := 2) ?hd (cs := #[.slice A0_0 l0_0.length c0_0, .slice A0_1 l0_1.length c0_1]) (t := 94) ?hr ?_; (case hd => rfl); (case hg => rfl); (case hr => first | (go_simp; done) | (go_simp; rfl)); intro gb1022 hg w3 hbox hb; have n0_ := Aside0.mk (below_step bel_ hb); have n1_ := Aside0.mk (hbox); have n2_ := Aside0.mk ((by rw [hg]; exact (below_size bel_) : w.heap.size ≤ gb1022)); have n3_ := Aside0.mk ((by rw [hg]; exact (below_size bel_) : w.heap.size ≤ gb1022)); clear HB; have HB := n0_; have BK1022 := n1_; have GW1022 := n2_; have GE1022 := n3_; clear n0_ n1_ n2_ n3_; clear hb hbox hg) | ((with_reducible refine gate_dst (N := 4) rfl ?_); refine box_event ?hg (N := 4) ?hd (cs := #[.bool false, .string (⟨#[]⟩ : ByteArray), .slice none 0 0]) (t := 24) ?hr ?_; (case hd => rfl); (case hg => rfl); (case hr => first | (go_simp; done) | (go_simp; rfl)); intro gb1023 hg w4 hbox hb; have n0_ := Aside0.mk (blk_below (g := gb1022) (o := .cells #[.slice A0_0 l0_0.length c0_0, .slice A0_1 l0_1.length c0_1] 94 (0, 0)) (bk_ BK1022) hb); have n1_ := Aside0.mk (below_step bel_ hb); have n2_ := Aside0.mk (hbox); have n3_ := Aside0.mk ((by rw [hg]; exact (below_size bel_) : w.heap.size ≤ gb1023)); have n4_ := Aside0.mk ((by rw [hg]; exact (below_size bel_) : w.heap.size ≤ gb1023)); have n5_ := Aside0.mk ((by rw [hg]; exact Nat.ne_of_lt (blk_lt (g := gb1022) (o := .cells #[.slice A0_0 l0_0.length c0_0, .slice A0_1 l0_1.length c0_1] 94 (0, 0)) (bk_ BK1022)) : gb1022 ≠ gb1023)); have n6_ := Aside0.mk ((by rw [hg]; exact Nat.ne_of_gt (blk_lt (g := gb1022) (o := .cells #[.slice A0_0 l0_0.length c0_0, .slice A0_1 l0_1.length c0_1] 94 (0, 0)) (bk_ BK1022)) : gb1023 ≠ gb1022)); clear BK1022; clear HB; have BK1022 := n0_; have HB := n1_; have BK1023 := n2_; have GW1023 := n3_; have GE1023 := n4_; have NB1022_1023 := n5_; have NB1023_1022 := n6_; clear n0_ n1_ n2_ n3_ n4_ n5_ n6_; clear hb hbox hg))
 go_loopg [6] k (fun kq v6 w' => ∃ (x6_1 : Int) (x1024000_1 : Bool) (x1024001_1 : ByteArray), v6 = .int .i64 x6_1 ∧ Aside0 (sequentref04_Const.l0 kq a1 x6_1 l0_0 l0_1 = some (r1, r2, r3, r4)) ∧ Aside0 (kq ≤ k) ∧ Aside0 (w'.heap[gb1022]? = some (.cells #[(.slice A0_0 l0_0.length c0_0), (.slice A0_1 l0_1.length c0_1)] 94 (0, 0))) ∧ Aside0 (w'.heap[gb1023]? = some (.cells #[.bool x1024000_1, .string x1024001_1, (.slice none 0 0)] 24 (0, 0))) ∧ Aside0 (Below w.heap.size w w'))
 case atStart => exact ⟨(0), (false), ((⟨#[]⟩ : ByteArray)), (by first | rfl | (simp; done) | (simp [*]; done)), H', ⟨Nat.le_refl _⟩, ⟨bk_ BK1022⟩, ⟨bk_ BK1023⟩, ⟨bel_⟩⟩
 case round =>
  clear H'
  try clear p2
  obtain ⟨x6_1, x1024000_1, x1024001_1, rfl, HA, HK1, BK1022, BK1023, HB⟩ := hrel
  cases gk with
  | zero => exact absurd HA.out (by simp [sequentref04_Const.l0])
  | succ k1 =>
   have H := HA.out
   clear HA
   simp only [sequentref04_Const.l0] at H
   by_cases c5 : x6_1 < (l0_1.length : Int)
   ·rw [if_pos c5] at H
    have c5b0 : decide (x6_1 < (l0_1.length : Int)) = true := decide_eq_true c5
    clear c5
    by_cases c6 : 0 ≤ x6_1
    ·rw [if_pos c6] at H
     have c6b0 : decide (0 ≤ x6_1) = true := decide_eq_true c6
     clear c6
     by_cases c7 : ((rd_T108 l0_1 x6_1).f0).toList = a1.toList
     ·rw [if_pos c7] at H
      have c7b0 : (((rd_T108 l0_1 x6_1).f0).toList == a1.toList) = true := beq_iff_eq.mpr c7
      have c7b1 : (((rd_T108 l0_1 x6_1).f0).toList != a1.toList) = false := bne_eq_false_iff_eq.mpr c7
      clear c7
      replace H := Option.bind_eq_some_iff.mp H
      obtain ⟨⟨t1026, t1027, t1028⟩, A80, H⟩ := H
      replace H : (some (t1026, t1027, t1028, true)) = some (r1, r2, r3, r4) := H
      have A8 := Aside0.mk A80
      clear A80
      simp only [Option.some.injEq, Prod.mk.injEq] at H
      obtain ⟨rfl, rfl, rfl, rfl⟩ := H
      have hnb9 := NB1022_1023.out
      have hnc9 := NB1023_1022.out
      have hcz10_0 : wr.cell? ⟨gb1022, 0, none⟩ = some (.slice A0_0 l0_0.length c0_0) := (blk_cell BK1022.out 0).trans rfl
      have hcz10_1 : wr.cell? ⟨gb1022, 1, none⟩ = some (.slice A0_1 l0_1.length c0_1) := (blk_cell BK1022.out 1).trans rfl
      have hfz10_0 := blk_frozen BK1022.out 0
      have hfz10_1 := blk_frozen BK1022.out 1
      have p1024 : 0 ≤ (x6_1 : Int) := dq_
      have q1024 : x6_1 < (l0_1.length : Int) := dq_
      obtain ⟨ad1024, A1024_3, c1024_3, e1024, hx1024_0, hx1024_1, hx1024_2, hx1024_3, hl1024_3, hi1024_3⟩ := at_T108 HR0_1.out x6_1 p1024 q1024
      cases e1024
      replace hx1024_0 := pw_cell_below HB.out hx1024_0
      replace hx1024_1 := pw_cell_below HB.out hx1024_1
      replace hx1024_2 := pw_cell_below HB.out hx1024_2
      replace hx1024_3 := pw_cell_below HB.out hx1024_3
      have HR1024_3 := Aside0.mk hi1024_3
      have HC1024_3 := Aside0.mk hl1024_3
      clear hi1024_3 hl1024_3
      replace p1024 := eq_true p1024
      replace q1024 := eq_true q1024
      have p1025 : 0 ≤ (x6_1 : Int) := dq_
      have q1025 : x6_1 < (l0_1.length : Int) := dq_
      obtain ⟨ad1025, A1025_3, c1025_3, e1025, hx1025_0, hx1025_1, hx1025_2, hx1025_3, hl1025_3, hi1025_3⟩ := at_T108 HR0_1.out x6_1 p1025 q1025
      obtain rfl : ad1024 = ad1025 := (by injection e1025)
      replace hx1025_0 := pw_cell_below HB.out hx1025_0
      replace hx1025_1 := pw_cell_below HB.out hx1025_1
      replace hx1025_2 := pw_cell_below HB.out hx1025_2
      replace hx1025_3 := pw_cell_below HB.out hx1025_3
      have HR1025_3 := Aside0.mk hi1025_3
      have HC1025_3 := Aside0.mk hl1025_3
      clear hi1025_3 hl1025_3
      replace p1025 := eq_true p1025
      replace q1025 := eq_true q1025
      have ea_ := Option.some.inj (hx1024_3.symm.trans hx1025_3)
      injection ea_ with ea_ en_ ec_
      subst ea_
      subst ec_
      clear en_
      go_wp2_with (first | ((with_reducible refine gate_callee (f := 97) rfl ?_); refine goesL_ (some 28) rfl rfl Try.func97 (by kernel_rfl) rfl #[.agg #[.bool ((rd_T108 l0_1 x6_1).f1.f0), .string ((rd_T108 l0_1 x6_1).f1.f1), .slice A1024_3 ((rd_T108 l0_1 x6_1).f1.f2).length c1024_3]] rfl (by (try simp only [List.map_toArray, List.map_cons, List.map_nil]); first | done | rfl | (simp only [List.length_drop, List.length_take]; rfl)) ?_; (with_reducible refine (sequentref01_Twin.calls k1 ((rd_T108 l0_1 x6_1).f1.f0) ((rd_T108 l0_1 x6_1).f1.f1) _ _ ((rd_T108 l0_1 x6_1).f1.f2) t1026 t1027 t1028 _ ?side1 ?side2 A8.out).mono ?_); (case side1 => repeat (first | exact (Kd.C_below HR1025_3.out HB.out) | (with_reducible refine Kd.C_alloc ?_ _) | (with_reducible refine Kd.C_drewN ?_ _) | (with_reducible refine Kd.C_drew ?_))); (case side2 => exact HC1025_3.out); rintro e w11 ⟨v1029, rfl, ho0, hb⟩; refine ⟨_, rfl, ?_⟩; have n0_ := Aside0.mk (Kd.R_lower (Kd.R_newB ho0 (g := gb1023) (o := .cells #[.bool x1024000_1, .string x1024001_1, .slice none 0 0] 24 (0, 0)) (bk_ BK1023)) (below_size bel_)); have n1_ := Aside0.mk (blk_below (g := gb1022) (o := .cells #[.slice A0_0 l0_0.length c0_0, .slice (some ad1024) l0_1.length c0_1] 94 (0, 0)) (bk_ BK1022) hb); have n2_ := Aside0.mk (blk_below (g := gb1023) (o := .cells #[.bool x1024000_1, .string x1024001_1, .slice none 0 0] 24 (0, 0)) (bk_ BK1023) hb); have n3_ := Aside0.mk (below_step bel_ hb); clear BK1022; clear BK1023; clear HB; have HO1030 := n0_; have BK1022 := n1_; have BK1023 := n2_; have HB := n3_; clear n0_ n1_ n2_ n3_; (try clear hb); (try clear hb2); (try clear hk); (try clear hi); (try clear ho0); have hcz12_0 : w11.cell? ⟨gb1023, 0, none⟩ = some (.bool x1024000_1) := (blk_cell BK1023.out 0).trans rfl; have hcz12_1 : w11.cell? ⟨gb1023, 1, none⟩ = some (.string x1024001_1) := (blk_cell BK1023.out 1).trans rfl; have hcz12_2 : w11.cell? ⟨gb1023, 2, none⟩ = some (.slice none 0 0) := (blk_cell BK1023.out 2).trans rfl; have hfz12_0 := blk_frozen BK1023.out 0; have hfz12_1 := blk_frozen BK1023.out 1; have hfz12_2 := blk_frozen BK1023.out 2; obtain ⟨Ao13, co13, eo13⟩ := Kd.R_slice HO1030.out; subst eo13))
      refine bodyPost_ret (results_ct rfl _ _ gb1023 24 #[.bool t1026, .string t1027, .slice Ao13 t1028.length co13] (0, 0) _ rfl (by (with_reducible repeat (first | refine blk_drewN ?_ _ | refine blk_drew ?_ | refine blk_alloc ?_ _)); refine blk_put (cs := #[.bool t1026, .string t1027, .slice none 0 0]) ?_ 2 _ rfl; (with_reducible repeat (first | refine blk_drewN ?_ _ | refine blk_drew ?_ | refine blk_alloc ?_ _)); refine blk_put (cs := #[.bool t1026, .string x1024001_1, .slice none 0 0]) ?_ 1 _ rfl; (with_reducible repeat (first | refine blk_drewN ?_ _ | refine blk_drew ?_ | refine blk_alloc ?_ _)); refine blk_put (cs := #[.bool x1024000_1, .string x1024001_1, .slice none 0 0]) ?_ 0 _ rfl; (with_reducible repeat (first | refine blk_drewN ?_ _ | refine blk_drew ?_ | refine blk_alloc ?_ _)); exact BK1023.out) Try.underlying24 rfl (by kernel_rfl)) rfl ?_
      exact ⟨_, by first | rfl | (simp [errW_none, errW_some] <;> rfl) | (simp [*, errW_none, errW_some] <;> rfl), by (with_reducible repeat (first | apply Kd.R_alloc | apply Kd.R_drewN | apply Kd.R_drew)); exact Kd.R_mono (Kd.R_far (p := ⟨gb1023, 2, none⟩) (Kd.R_far (p := ⟨gb1023, 1, none⟩) (Kd.R_far (p := ⟨gb1023, 0, none⟩) (Kd.R_mono HO1030.out (fun k_ hk => (⟨hk, hk.2⟩ : _ ∧ k_ ≠ gb1023))) (fun _ hk => hk.2) (.bool t1026)) (fun _ hk => hk.2) (.string t1027)) (fun _ hk => hk.2) (.slice Ao13 t1028.length co13)) (fun _ hk => trivial), bel_⟩
     ·rw [if_neg c7] at H
      have c7b0 : (((rd_T108 l0_1 x6_1).f0).toList == a1.toList) = false := beq_eq_false_iff_ne.mpr c7
      have c7b1 : (((rd_T108 l0_1 x6_1).f0).toList != a1.toList) = true := bne_iff_ne.mpr c7
      have H' := Aside0.mk H
      clear H
      have hnb14 := NB1022_1023.out
      have hnc14 := NB1023_1022.out
      have hcz15_0 : wr.cell? ⟨gb1022, 0, none⟩ = some (.slice A0_0 l0_0.length c0_0) := (blk_cell BK1022.out 0).trans rfl
      have hcz15_1 : wr.cell? ⟨gb1022, 1, none⟩ = some (.slice A0_1 l0_1.length c0_1) := (blk_cell BK1022.out 1).trans rfl
      have hfz15_0 := blk_frozen BK1022.out 0
      have hfz15_1 := blk_frozen BK1022.out 1
      have p1024 : 0 ≤ (x6_1 : Int) := dq_
      have q1024 : x6_1 < (l0_1.length : Int) := dq_
      obtain ⟨ad1024, A1024_3, c1024_3, e1024, hx1024_0, hx1024_1, hx1024_2, hx1024_3, hl1024_3, hi1024_3⟩ := at_T108 HR0_1.out x6_1 p1024 q1024
      cases e1024
      replace hx1024_0 := pw_cell_below HB.out hx1024_0
      replace hx1024_1 := pw_cell_below HB.out hx1024_1
      replace hx1024_2 := pw_cell_below HB.out hx1024_2
      replace hx1024_3 := pw_cell_below HB.out hx1024_3
      have HR1024_3 := Aside0.mk hi1024_3
      have HC1024_3 := Aside0.mk hl1024_3
      clear hi1024_3 hl1024_3
      replace p1024 := eq_true p1024
      replace q1024 := eq_true q1024
      go_wp2
      go_roundg k1
      case measure => have := HK1.out; omega
      case rel => exact ⟨(wrap64 (x6_1 + 1)), (x1024000_1), (x1024001_1), (by first | rfl | (simp; done) | (simp [*]; done)), H', ⟨by have := HK1.out; omega⟩, ⟨bk_ BK1022⟩, ⟨bk_ BK1023⟩, ⟨bel_⟩⟩
    ·rw [if_neg c6] at H
     exact absurd H (by simp)
   ·rw [if_neg c5] at H
    have c5b0 : decide (x6_1 < (l0_1.length : Int)) = false := decide_eq_false c5
    clear c5
    simp only [Option.some.injEq, Prod.mk.injEq] at H
    obtain ⟨rfl, rfl, rfl, rfl⟩ := H
    have hnb16 := NB1022_1023.out
    have hnc16 := NB1023_1022.out
    have hcz17_0 : wr.cell? ⟨gb1022, 0, none⟩ = some (.slice A0_0 l0_0.length c0_0) := (blk_cell BK1022.out 0).trans rfl
    have hcz17_1 : wr.cell? ⟨gb1022, 1, none⟩ = some (.slice A0_1 l0_1.length c0_1) := (blk_cell BK1022.out 1).trans rfl
    have hfz17_0 := blk_frozen BK1022.out 0
    have hfz17_1 := blk_frozen BK1022.out 1
    have hcz18_0 : wr.cell? ⟨gb1023, 0, none⟩ = some (.bool x1024000_1) := (blk_cell BK1023.out 0).trans rfl
    have hcz18_1 : wr.cell? ⟨gb1023, 1, none⟩ = some (.string x1024001_1) := (blk_cell BK1023.out 1).trans rfl
    have hcz18_2 : wr.cell? ⟨gb1023, 2, none⟩ = some (.slice none 0 0) := (blk_cell BK1023.out 2).trans rfl
    have hfz18_0 := blk_frozen BK1023.out 0
    have hfz18_1 := blk_frozen BK1023.out 1
    have hfz18_2 := blk_frozen BK1023.out 2
    go_wp2
    refine bodyPost_ret (results_ct rfl _ _ gb1023 24 #[.bool false, .string (⟨#[]⟩ : ByteArray), .slice none 0 0] (0, 0) _ rfl (by (with_reducible repeat (first | refine blk_drewN ?_ _ | refine blk_drew ?_ | refine blk_alloc ?_ _)); refine blk_put (cs := #[.bool false, .string (⟨#[]⟩ : ByteArray), .slice none 0 0]) ?_ 2 _ rfl; (with_reducible repeat (first | refine blk_drewN ?_ _ | refine blk_drew ?_ | refine blk_alloc ?_ _)); refine blk_put (cs := #[.bool false, .string x1024001_1, .slice none 0 0]) ?_ 1 _ rfl; (with_reducible repeat (first | refine blk_drewN ?_ _ | refine blk_drew ?_ | refine blk_alloc ?_ _)); refine blk_put (cs := #[.bool x1024000_1, .string x1024001_1, .slice none 0 0]) ?_ 0 _ rfl; (with_reducible repeat (first | refine blk_drewN ?_ _ | refine blk_drew ?_ | refine blk_alloc ?_ _)); exact BK1023.out) Try.underlying24 rfl (by kernel_rfl)) rfl ?_
    exact ⟨_, by first | rfl | (simp [errW_none, errW_some] <;> rfl) | (simp [*, errW_none, errW_some] <;> rfl), by first | exact Kd.R_nil _ _ _ _ _ | exact Kd.N_nil _ _ _ _ _ | exact Kd.V_nil _ _ _ _ _ | exact Kd.Q_nil _ _ _ _ _ | exact Kd.S_nil _ _ _ _ _, bel_⟩

end Go.Proofs.Ytecplbgdalchdaa.Q
-- written by a program of this session (wip/tools/myprint.py) out of the translation
namespace Go.Proofs.Ytecplbgdalchdaa.Q
open Go.RowKit Go.Proofs.YtecplbgdalchdaaW.PrintWords Go.Proofs.YtecplbgdalchdaaW.PrintLast Go.Proofs.YtecplbgdalchdaaW.PrintMore
attribute [local go_sem] max2_int min2_int max_two min_two max_three min_three max_four min_four   -- for this text's walks alone
set_option linter.unusedVariables false
set_option linter.unusedSimpArgs false

/-! ### signature_TypeOp: function 71 -/
def signature_TypeOp.l0 : Nat → ByteArray → List (S106) → Int → Int → Option (Int × Bool)
 | 0, _, _, _, _ => none
 | k + 1, x1, x9, x10, x11 => if x11 < x10 then (if 0 ≤ x11 then (if x11 < (x9.length : Int) then (if ((rd_T106 x9 x11).f0).toList = x1.toList then (some ((rd_T106 x9 x11).f1, true)) else (signature_TypeOp.l0 k x1 x9 x10 (wrap64 (x11 + 1)))) else (none)) else (none)) else (some (0, false))
def signature_TypeOp.f (k : Nat) (l0_0 : List (S106)) (l0_1 : List (S108)) (a1 : ByteArray) : Option (Int × Bool) := signature_TypeOp.l0 k a1 l0_0 (l0_0.length : Int) 0
set_option maxHeartbeats 8000000 in
set_option maxRecDepth 100000 in
theorem signature_TypeOp.calls (k : Nat) (A0_0 : Option Addr) (c0_0 : Nat) (l0_0 : List (S106)) (A0_1 : Option Addr) (c0_1 : Nat) (l0_1 : List (S108)) (a1 : ByteArray) (r1 : Int) (r2 : Bool) (w : World) (hr0_0 : Kd.C k106 w A0_0 l0_0.length l0_0) (hc0_0 : l0_0.length ≤ c0_0) (hr0_1 : Kd.C k108 w A0_1 l0_1.length l0_1) (hc0_1 : l0_1.length ≤ c0_1) (h : signature_TypeOp.f k l0_0 l0_1 a1 = some (r1, r2)) :
 Calls Try.prog 71 #[.agg #[.slice A0_0 l0_0.length c0_0, .slice A0_1 l0_1.length c0_1], .string a1] w fun e w' => e = .returned (.tuple #[.int .i64 r1, .bool r2]) ∧ Below w.heap.size w w' := by
 have hu94 := Try.underlying94
 have hu106 := Try.underlying106
 have HR0_0 := Aside0.mk hr0_0
 have HC0_0 := Aside0.mk hc0_0
 clear hr0_0 hc0_0
 have HR0_1 := Aside0.mk hr0_1
 have HC0_1 := Aside0.mk hc0_1
 clear hr0_1 hc0_1
 have HB := Aside0.mk (Below.refl w.heap.size w)
 have H : (signature_TypeOp.l0 k a1 l0_0 (l0_0.length : Int) 0) = some (r1, r2) := h
 clear h
 have H' := Aside0.mk H
 clear H
 go_enter Try.func71, Try.ntmps71
 go_wp2_with (first | ((with_reducible refine gate_dst (N := 2) rfl ?_); refine box_event ?hg (N := 2) ?hd (cs := #[.slice A0_0 l0_0.length c0_0, .slice A0_1 l0_1.length c0_1]) (t := 94) ?hr ?_; (case hd => rfl); (case hg => rfl); (case hr => first | (go_simp; done) | (go_simp; rfl)); intro gb1007 hg w3 hbox hb; have n0_ := Aside0.mk (below_step bel_ hb); have n1_ := Aside0.mk (hbox); have n2_ := Aside0.mk ((by rw [hg]; exact (below_size bel_) : w.heap.size ≤ gb1007)); have n3_ := Aside0.mk ((by rw [hg]; exact (below_size bel_) : w.heap.size ≤ gb1007)); clear HB; have HB := n0_; have BK1007 := n1_; have GW1007 := n2_; have GE1007 := n3_; clear n0_ n1_ n2_ n3_; clear hb hbox hg; have hcz4_0 : w3.cell? ⟨gb1007, 0, none⟩ = some (.slice A0_0 l0_0.length c0_0) := (blk_cell BK1007.out 0).trans rfl; have hcz4_1 : w3.cell? ⟨gb1007, 1, none⟩ = some (.slice A0_1 l0_1.length c0_1) := (blk_cell BK1007.out 1).trans rfl; have hfz4_0 := blk_frozen BK1007.out 0; have hfz4_1 := blk_frozen BK1007.out 1))
 go_loopg [11] k (fun kq v11 w' => ∃ (x11_1 : Int), v11 = .int .i64 x11_1 ∧ Aside0 (signature_TypeOp.l0 kq a1 l0_0 (l0_0.length : Int) x11_1 = some (r1, r2)) ∧ Aside0 (kq ≤ k) ∧ Aside0 (w'.heap[gb1007]? = some (.cells #[(.slice A0_0 l0_0.length c0_0), (.slice A0_1 l0_1.length c0_1)] 94 (0, 0))) ∧ Aside0 (Below w.heap.size w w'))
 case atStart => exact ⟨(0), (by first | rfl | (simp; done) | (simp [*]; done)), H', ⟨Nat.le_refl _⟩, ⟨bk_ BK1007⟩, ⟨bel_⟩⟩
 case round =>
  clear H'
  try clear p2
  try clear hcz4_0
  try clear hcz4_1
  try clear hfz4_0
  try clear hfz4_1
  obtain ⟨x11_1, rfl, HA, HK1, BK1007, HB⟩ := hrel
  cases gk with
  | zero => exact absurd HA.out (by simp [signature_TypeOp.l0])
  | succ k1 =>
   have H := HA.out
   clear HA
   simp only [signature_TypeOp.l0] at H
   by_cases c5 : x11_1 < (l0_0.length : Int)
   ·rw [if_pos c5] at H
    have c5b0 : decide (x11_1 < (l0_0.length : Int)) = true := decide_eq_true c5
    clear c5
    by_cases c6 : 0 ≤ x11_1
    ·rw [if_pos c6] at H
     have c6b0 : decide (0 ≤ x11_1) = true := decide_eq_true c6
     clear c6
     by_cases c7 : x11_1 < (l0_0.length : Int)
     ·rw [if_pos c7] at H
      have c7b0 : decide (x11_1 < (l0_0.length : Int)) = true := decide_eq_true c7
      clear c7
      by_cases c8 : ((rd_T106 l0_0 x11_1).f0).toList = a1.toList
      ·rw [if_pos c8] at H
       have c8b0 : (((rd_T106 l0_0 x11_1).f0).toList == a1.toList) = true := beq_iff_eq.mpr c8
       have c8b1 : (((rd_T106 l0_0 x11_1).f0).toList != a1.toList) = false := bne_eq_false_iff_eq.mpr c8
       clear c8
       simp only [Option.some.injEq, Prod.mk.injEq] at H
       obtain ⟨rfl, rfl⟩ := H
       have p1008 : 0 ≤ (x11_1 : Int) := dq_
       have q1008 : x11_1 < (l0_0.length : Int) := dq_
       obtain ⟨ad1008, e1008, hx1008_0, hx1008_1⟩ := at_T106 HR0_0.out x11_1 p1008 q1008
       cases e1008
       replace hx1008_0 := pw_cell_below HB.out hx1008_0
       replace hx1008_1 := pw_cell_below HB.out hx1008_1
       replace p1008 := eq_true p1008
       replace q1008 := eq_true q1008
       go_wp2_with (first | ((with_reducible refine gate_dst (N := 7) rfl ?_); refine box_event ?hg (N := 7) ?hd (cs := #[.string (⟨#[]⟩ : ByteArray), .int .i64 0]) (t := 106) ?hr ?_; (case hd => rfl); (case hg => rfl); (case hr => first | (go_simp; done) | (go_simp; rfl)); intro gb1009 hg w9 hbox hb; have n0_ := Aside0.mk (blk_below (g := gb1007) (o := .cells #[.slice (some ad1008) l0_0.length c0_0, .slice A0_1 l0_1.length c0_1] 94 (0, 0)) (bk_ BK1007) hb); have n1_ := Aside0.mk (below_step bel_ hb); have n2_ := Aside0.mk (hbox); have n3_ := Aside0.mk ((by rw [hg]; exact (below_size bel_) : w.heap.size ≤ gb1009)); have n4_ := Aside0.mk ((by rw [hg]; exact (below_size bel_) : w.heap.size ≤ gb1009)); have n5_ := Aside0.mk ((by rw [hg]; exact Nat.ne_of_lt (blk_lt (g := gb1007) (o := .cells #[.slice (some ad1008) l0_0.length c0_0, .slice A0_1 l0_1.length c0_1] 94 (0, 0)) (bk_ BK1007)) : gb1007 ≠ gb1009)); have n6_ := Aside0.mk ((by rw [hg]; exact Nat.ne_of_gt (blk_lt (g := gb1007) (o := .cells #[.slice (some ad1008) l0_0.length c0_0, .slice A0_1 l0_1.length c0_1] 94 (0, 0)) (bk_ BK1007)) : gb1009 ≠ gb1007)); clear BK1007; clear HB; have BK1007 := n0_; have HB := n1_; have BK1009 := n2_; have GW1009 := n3_; have GE1009 := n4_; have NB1007_1009 := n5_; have NB1009_1007 := n6_; clear n0_ n1_ n2_ n3_ n4_ n5_ n6_; clear hb hbox hg; have hnb10 := NB1009_1007.out; have hnc10 := NB1007_1009.out; have hcz11_0 : w9.cell? ⟨gb1009, 0, none⟩ = some (.string (⟨#[]⟩ : ByteArray)) := (blk_cell BK1009.out 0).trans rfl; have hcz11_1 : w9.cell? ⟨gb1009, 1, none⟩ = some (.int .i64 0) := (blk_cell BK1009.out 1).trans rfl; have hfz11_0 := blk_frozen BK1009.out 0; have hfz11_1 := blk_frozen BK1009.out 1))
       go_ret2
       exact ⟨by first | rfl | (simp [errW_none, errW_some] <;> rfl) | (simp [*, errW_none, errW_some] <;> rfl), bel_⟩
      ·rw [if_neg c8] at H
       have c8b0 : (((rd_T106 l0_0 x11_1).f0).toList == a1.toList) = false := beq_eq_false_iff_ne.mpr c8
       have c8b1 : (((rd_T106 l0_0 x11_1).f0).toList != a1.toList) = true := bne_iff_ne.mpr c8
       have H' := Aside0.mk H
       clear H
       have p1008 : 0 ≤ (x11_1 : Int) := dq_
       have q1008 : x11_1 < (l0_0.length : Int) := dq_
       obtain ⟨ad1008, e1008, hx1008_0, hx1008_1⟩ := at_T106 HR0_0.out x11_1 p1008 q1008
       cases e1008
       replace hx1008_0 := pw_cell_below HB.out hx1008_0
       replace hx1008_1 := pw_cell_below HB.out hx1008_1
       replace p1008 := eq_true p1008
       replace q1008 := eq_true q1008
       go_wp2_with (first | ((with_reducible refine gate_dst (N := 7) rfl ?_); refine box_event ?hg (N := 7) ?hd (cs := #[.string (⟨#[]⟩ : ByteArray), .int .i64 0]) (t := 106) ?hr ?_; (case hd => rfl); (case hg => rfl); (case hr => first | (go_simp; done) | (go_simp; rfl)); intro gb1009 hg w12 hbox hb; have n0_ := Aside0.mk (blk_below (g := gb1007) (o := .cells #[.slice (some ad1008) l0_0.length c0_0, .slice A0_1 l0_1.length c0_1] 94 (0, 0)) (bk_ BK1007) hb); have n1_ := Aside0.mk (below_step bel_ hb); have n2_ := Aside0.mk (hbox); have n3_ := Aside0.mk ((by rw [hg]; exact (below_size bel_) : w.heap.size ≤ gb1009)); have n4_ := Aside0.mk ((by rw [hg]; exact (below_size bel_) : w.heap.size ≤ gb1009)); have n5_ := Aside0.mk ((by rw [hg]; exact Nat.ne_of_lt (blk_lt (g := gb1007) (o := .cells #[.slice (some ad1008) l0_0.length c0_0, .slice A0_1 l0_1.length c0_1] 94 (0, 0)) (bk_ BK1007)) : gb1007 ≠ gb1009)); have n6_ := Aside0.mk ((by rw [hg]; exact Nat.ne_of_gt (blk_lt (g := gb1007) (o := .cells #[.slice (some ad1008) l0_0.length c0_0, .slice A0_1 l0_1.length c0_1] 94 (0, 0)) (bk_ BK1007)) : gb1009 ≠ gb1007)); clear BK1007; clear HB; have BK1007 := n0_; have HB := n1_; have BK1009 := n2_; have GW1009 := n3_; have GE1009 := n4_; have NB1007_1009 := n5_; have NB1009_1007 := n6_; clear n0_ n1_ n2_ n3_ n4_ n5_ n6_; clear hb hbox hg; have hnb13 := NB1009_1007.out; have hnc13 := NB1007_1009.out; have hcz14_0 : w12.cell? ⟨gb1009, 0, none⟩ = some (.string (⟨#[]⟩ : ByteArray)) := (blk_cell BK1009.out 0).trans rfl; have hcz14_1 : w12.cell? ⟨gb1009, 1, none⟩ = some (.int .i64 0) := (blk_cell BK1009.out 1).trans rfl; have hfz14_0 := blk_frozen BK1009.out 0; have hfz14_1 := blk_frozen BK1009.out 1))
       go_roundg k1
       case measure => have := HK1.out; omega
       case rel => exact ⟨(wrap64 (x11_1 + 1)), (by first | rfl | (simp; done) | (simp [*]; done)), H', ⟨by have := HK1.out; omega⟩, ⟨by (with_reducible repeat (first | refine blk_drewN ?_ _ | refine blk_drew ?_ | refine blk_alloc ?_ _)); refine blk_far ?_ NB1007_1009.out _; (with_reducible repeat (first | refine blk_drewN ?_ _ | refine blk_drew ?_ | refine blk_alloc ?_ _)); refine blk_far ?_ NB1007_1009.out _; (with_reducible repeat (first | refine blk_drewN ?_ _ | refine blk_drew ?_ | refine blk_alloc ?_ _)); exact BK1007.out⟩, ⟨bel_⟩⟩
     ·rw [if_neg c7] at H
      exact absurd H (by simp)
    ·rw [if_neg c6] at H
     exact absurd H (by simp)
   ·rw [if_neg c5] at H
    have c5b0 : decide (x11_1 < (l0_0.length : Int)) = false := decide_eq_false c5
    clear c5
    simp only [Option.some.injEq, Prod.mk.injEq] at H
    obtain ⟨rfl, rfl⟩ := H
    go_wp2
    go_ret2
    exact ⟨by first | rfl | (simp [errW_none, errW_some] <;> rfl) | (simp [*, errW_none, errW_some] <;> rfl), bel_⟩

end Go.Proofs.Ytecplbgdalchdaa.Q
-- written by a program of this session (wip/tools/myprint.py) out of the translation
namespace Go.Proofs.Ytecplbgdalchdaa.Q
open Go.RowKit Go.Proofs.YtecplbgdalchdaaW.PrintWords Go.Proofs.YtecplbgdalchdaaW.PrintLast Go.Proofs.YtecplbgdalchdaaW.PrintMore
attribute [local go_sem] max2_int min2_int max_two min_two max_three min_three max_four min_four   -- for this text's walks alone
set_option linter.unusedVariables false
set_option linter.unusedSimpArgs false

attribute [local go_sem high] eqA106
/-! ### api_TypeOp_152: function 152 -/
def api_TypeOp_152.l0 : Nat → List (S106) → List (S106) → Int → Int → Option (Bool)
 | 0, _, _, _, _ => none
 | k + 1, x0, x1, x12, x13 => if x13 < x12 then (if 0 ≤ x13 then (if x13 < (x0.length : Int) then (if x13 < (x1.length : Int) then (if (!((((rd_T106 x0 x13).f0).toList) == (((rd_T106 x1 x13).f0).toList)) || (!(((rd_T106 x0 x13).f1) == ((rd_T106 x1 x13).f1)))) = true then (some false) else (api_TypeOp_152.l0 k x0 x1 x12 (wrap64 (x13 + 1)))) else (none)) else (none)) else (none)) else (some true)
def api_TypeOp_152.f (k : Nat) (l0 : List (S106)) (l1 : List (S106)) : Option (Bool) := if (l0.length : Int) = (l1.length : Int) then (api_TypeOp_152.l0 k l0 l1 (l0.length : Int) 0) else (some false)
set_option maxHeartbeats 8000000 in
set_option maxRecDepth 100000 in
theorem api_TypeOp_152.calls (k : Nat) (A0 : Option Addr) (c0 : Nat) (l0 : List (S106)) (A1 : Option Addr) (c1 : Nat) (l1 : List (S106)) (r : Bool) (w : World) (hr0 : Kd.C k106 w A0 l0.length l0) (hc0 : l0.length ≤ c0) (hr1 : Kd.C k106 w A1 l1.length l1) (hc1 : l1.length ≤ c1) (h : api_TypeOp_152.f k l0 l1 = some r) :
 Calls Try.prog 152 #[.slice A0 l0.length c0, .slice A1 l1.length c1] w fun e w' => e = .returned (.bool r) ∧ Drawn0 w w' := by
 have hu106 := Try.underlying106
 have HR0 := Aside0.mk hr0
 have HC0 := Aside0.mk hc0
 clear hr0 hc0
 have HR1 := Aside0.mk hr1
 have HC1 := Aside0.mk hc1
 clear hr1 hc1
 have H : (if (l0.length : Int) = (l1.length : Int) then (api_TypeOp_152.l0 k l0 l1 (l0.length : Int) 0) else (some false)) = some r := h
 clear h
 by_cases c3 : (l0.length : Int) = (l1.length : Int)
 ·rw [if_pos c3] at H
  have c3b0 : ((l0.length : Int) == (l1.length : Int)) = true := beq_iff_eq.mpr c3
  have c3b1 : ((l0.length : Int) != (l1.length : Int)) = false := bne_eq_false_iff_eq.mpr c3
  have c3b2 : (l0.length == l1.length) = true := by first | simpa using c3 | (simp at c3 ⊢; omega)
  clear c3
  have H' := Aside0.mk H
  clear H
  go_enter Try.func152, Try.ntmps152
  go_wp2
  repeat (go_quiet (fail); try go_wp2)
  go_loopg [13] k (fun kq v13 w' => ∃ (x13_1 : Int), v13 = .int .i64 x13_1 ∧ Aside0 (api_TypeOp_152.l0 kq l0 l1 (l0.length : Int) x13_1 = some r) ∧ Aside0 (kq ≤ k) ∧ Drawn0 w w')
  case atStart => exact ⟨(0), (by first | rfl | (simp; done) | (simp [*]; done)), H', ⟨Nat.le_refl _⟩, by repeat (first | exact Drawn0.refl _ | apply Drawn0.step)⟩
  case round =>
   clear H'
   try clear c1
   try clear p2
   try clear c3
   try clear c3b0
   try clear c3b1
   try clear c3b2
   obtain ⟨x13_1, rfl, HA, HK1, ⟨m1, rfl⟩⟩ := hrel
   cases gk with
   | zero => exact absurd HA.out (by simp [api_TypeOp_152.l0])
   | succ k1 =>
    have H := HA.out
    clear HA
    simp only [api_TypeOp_152.l0] at H
    by_cases c4 : x13_1 < (l0.length : Int)
    ·rw [if_pos c4] at H
     have c4b0 : decide (x13_1 < (l0.length : Int)) = true := decide_eq_true c4
     clear c4
     by_cases c5 : 0 ≤ x13_1
     ·rw [if_pos c5] at H
      have c5b0 : decide (0 ≤ x13_1) = true := decide_eq_true c5
      clear c5
      by_cases c6 : x13_1 < (l0.length : Int)
      ·rw [if_pos c6] at H
       have c6b0 : decide (x13_1 < (l0.length : Int)) = true := decide_eq_true c6
       clear c6
       by_cases c7 : x13_1 < (l1.length : Int)
       ·rw [if_pos c7] at H
        have c7b0 : decide (x13_1 < (l1.length : Int)) = true := decide_eq_true c7
        clear c7
        by_cases c8 : (!((((rd_T106 l0 x13_1).f0).toList) == (((rd_T106 l1 x13_1).f0).toList)) || (!(((rd_T106 l0 x13_1).f1) == ((rd_T106 l1 x13_1).f1)))) = true
        ·rw [if_pos c8] at H
         have c8b0 : (!((((rd_T106 l0 x13_1).f0).toList) == (((rd_T106 l1 x13_1).f0).toList)) || (!(((rd_T106 l0 x13_1).f1) == ((rd_T106 l1 x13_1).f1)))) = true := c8
         clear c8
         obtain rfl := Option.some.inj H
         have p1069 : 0 ≤ (x13_1 : Int) := dq_
         have q1069 : x13_1 < (l0.length : Int) := dq_
         obtain ⟨ad1069, e1069, hx1069_0, hx1069_1⟩ := at_T106 HR0.out x13_1 p1069 q1069
         cases e1069
         replace p1069 := eq_true p1069
         replace q1069 := eq_true q1069
         have p1070 : 0 ≤ (x13_1 : Int) := dq_
         have q1070 : x13_1 < (l1.length : Int) := dq_
         obtain ⟨ad1070, e1070, hx1070_0, hx1070_1⟩ := at_T106 HR1.out x13_1 p1070 q1070
         cases e1070
         replace p1070 := eq_true p1070
         replace q1070 := eq_true q1070
         go_wp2
         repeat (go_quiet (fail); try go_wp2)
         go_ret
         exact ⟨by first | rfl | (simp; done) | (simp [*]; done), by repeat (first | exact Drawn0.refl _ | apply Drawn0.step)⟩
        ·rw [if_neg c8] at H
         have c8b0 : (!((((rd_T106 l0 x13_1).f0).toList) == (((rd_T106 l1 x13_1).f0).toList)) || (!(((rd_T106 l0 x13_1).f1) == ((rd_T106 l1 x13_1).f1)))) = false := by simpa using c8
         clear c8
         have H' := Aside0.mk H
         clear H
         have p1069 : 0 ≤ (x13_1 : Int) := dq_
         have q1069 : x13_1 < (l0.length : Int) := dq_
         obtain ⟨ad1069, e1069, hx1069_0, hx1069_1⟩ := at_T106 HR0.out x13_1 p1069 q1069
         cases e1069
         replace p1069 := eq_true p1069
         replace q1069 := eq_true q1069
         have p1070 : 0 ≤ (x13_1 : Int) := dq_
         have q1070 : x13_1 < (l1.length : Int) := dq_
         obtain ⟨ad1070, e1070, hx1070_0, hx1070_1⟩ := at_T106 HR1.out x13_1 p1070 q1070
         cases e1070
         replace p1070 := eq_true p1070
         replace q1070 := eq_true q1070
         go_wp2
         repeat (go_quiet (fail); try go_wp2)
         go_roundg k1
         case measure => have := HK1.out; omega
         case rel => exact ⟨(wrap64 (x13_1 + 1)), (by first | rfl | (simp; done) | (simp [*]; done)), H', ⟨by have := HK1.out; omega⟩, by repeat (first | exact Drawn0.refl _ | apply Drawn0.step)⟩
       ·rw [if_neg c7] at H
        exact absurd H (by simp)
      ·rw [if_neg c6] at H
       exact absurd H (by simp)
     ·rw [if_neg c5] at H
      exact absurd H (by simp)
    ·rw [if_neg c4] at H
     have c4b0 : decide (x13_1 < (l0.length : Int)) = false := decide_eq_false c4
     clear c4
     obtain rfl := Option.some.inj H
     go_wp2
     repeat (go_quiet (fail); try go_wp2)
     go_ret
     exact ⟨by first | rfl | (simp; done) | (simp [*]; done), by repeat (first | exact Drawn0.refl _ | apply Drawn0.step)⟩
 ·rw [if_neg c3] at H
  have c3b0 : ((l0.length : Int) == (l1.length : Int)) = false := beq_eq_false_iff_ne.mpr c3
  have c3b1 : ((l0.length : Int) != (l1.length : Int)) = true := bne_iff_ne.mpr c3
  have c3b2 : (l0.length == l1.length) = false := by first | simpa using c3 | (simp at c3 ⊢; omega)
  obtain rfl := Option.some.inj H
  go_enter Try.func152, Try.ntmps152
  go_wp2
  repeat (go_quiet (fail); try go_wp2)
  go_ret
  exact ⟨by first | rfl | (simp; done) | (simp [*]; done), by repeat (first | exact Drawn0.refl _ | apply Drawn0.step)⟩

end Go.Proofs.Ytecplbgdalchdaa.Q
-- written by a program of this session (wip/tools/myprint.py) out of the translation
namespace Go.Proofs.Ytecplbgdalchdaa.Q
open Go.RowKit Go.Proofs.YtecplbgdalchdaaW.PrintWords Go.Proofs.YtecplbgdalchdaaW.PrintLast Go.Proofs.YtecplbgdalchdaaW.PrintMore
attribute [local go_sem] max2_int min2_int max_two min_two max_three min_three max_four min_four   -- for this text's walks alone
set_option linter.unusedVariables false
set_option linter.unusedSimpArgs false

/-! ### types_Bool: function 41 -/
def types_Bool.f  : Option (Bool × ByteArray × (List (S24))) := some (false, (⟨#[98, 111, 111, 108]⟩ : ByteArray), ([] : List (S24)))
set_option maxHeartbeats 8000000 in
set_option maxRecDepth 100000 in
theorem types_Bool.calls  (r1 : Bool) (r2 : ByteArray) (r3 : List (S24)) (w : World) (h : types_Bool.f  = some (r1, r2, r3)) :
 Calls Try.prog 41 #[] w fun e w' => ∃ v2_ : Value, e = .returned (.agg #[.bool r1, .string r2, v2_]) ∧ Kd.R k24 24 w' w.heap.size (fun _ => True) v2_ r3 ∧ Below w.heap.size w w' := by
 have hu24 := Try.underlying24
 have HB := Aside0.mk (Below.refl w.heap.size w)
 have H : (some (false, (⟨#[98, 111, 111, 108]⟩ : ByteArray), ([] : List (S24)))) = some (r1, r2, r3) := h
 clear h
 simp only [Option.some.injEq, Prod.mk.injEq] at H
 obtain ⟨rfl, rfl, rfl⟩ := H
 go_enter Try.func41, Try.ntmps41
 go_wp2_with (first | ((with_reducible refine gate_dst (N := 0) rfl ?_); refine box_event ?hg (N := 0) ?hd (cs := #[.bool false, .string (⟨#[]⟩ : ByteArray), .slice none 0 0]) (t := 24) ?hr ?_; (case hd => rfl); (case hg => rfl); (case hr => first | (go_simp; done) | (go_simp; rfl)); intro gb196 hg w1 hbox hb; have n0_ := Aside0.mk (below_step bel_ hb); have n1_ := Aside0.mk (hbox); have n2_ := Aside0.mk ((by rw [hg]; exact (below_size bel_) : w.heap.size ≤ gb196)); have n3_ := Aside0.mk ((by rw [hg]; exact (below_size bel_) : w.heap.size ≤ gb196)); clear HB; have HB := n0_; have BK196 := n1_; have GW196 := n2_; have GE196 := n3_; clear n0_ n1_ n2_ n3_; clear hb hbox hg; have hcz2_0 : w1.cell? ⟨gb196, 0, none⟩ = some (.bool false) := (blk_cell BK196.out 0).trans rfl; have hcz2_1 : w1.cell? ⟨gb196, 1, none⟩ = some (.string (⟨#[]⟩ : ByteArray)) := (blk_cell BK196.out 1).trans rfl; have hcz2_2 : w1.cell? ⟨gb196, 2, none⟩ = some (.slice none 0 0) := (blk_cell BK196.out 2).trans rfl; have hfz2_0 := blk_frozen BK196.out 0; have hfz2_1 := blk_frozen BK196.out 1; have hfz2_2 := blk_frozen BK196.out 2))
 refine bodyPost_ret (results_cell_row rfl _ _ gb196 24 #[.bool false, .string (⟨#[98, 111, 111, 108]⟩ : ByteArray), .slice none 0 0] (0, 0) _ rfl (by (with_reducible repeat (first | refine blk_drewN ?_ _ | refine blk_drew ?_ | refine blk_alloc ?_ _)); refine blk_put (cs := #[.bool false, .string (⟨#[98, 111, 111, 108]⟩ : ByteArray), .slice none 0 0]) ?_ 2 _ rfl; (with_reducible repeat (first | refine blk_drewN ?_ _ | refine blk_drew ?_ | refine blk_alloc ?_ _)); refine blk_put (cs := #[.bool false, .string (⟨#[]⟩ : ByteArray), .slice none 0 0]) ?_ 1 _ rfl; (with_reducible repeat (first | refine blk_drewN ?_ _ | refine blk_drew ?_ | refine blk_alloc ?_ _)); refine blk_put (cs := #[.bool false, .string (⟨#[]⟩ : ByteArray), .slice none 0 0]) ?_ 0 _ rfl; (with_reducible repeat (first | refine blk_drewN ?_ _ | refine blk_drew ?_ | refine blk_alloc ?_ _)); exact BK196.out) Try.underlying24 rfl (by kernel_rfl)) rfl ?_
 exact ⟨_, by first | rfl | (simp [errW_none, errW_some] <;> rfl) | (simp [*, errW_none, errW_some] <;> rfl), by first | exact Kd.R_nil _ _ _ _ _ | exact Kd.N_nil _ _ _ _ _ | exact Kd.V_nil _ _ _ _ _ | exact Kd.Q_nil _ _ _ _ _ | exact Kd.S_nil _ _ _ _ _, bel_⟩

end Go.Proofs.Ytecplbgdalchdaa.Q
-- written by a program of this session (wip/tools/myprint.py) out of the translation
namespace Go.Proofs.Ytecplbgdalchdaa.Q
open Go.RowKit Go.Proofs.YtecplbgdalchdaaW.PrintWords Go.Proofs.YtecplbgdalchdaaW.PrintLast Go.Proofs.YtecplbgdalchdaaW.PrintMore
attribute [local go_sem] max2_int min2_int max_two min_two max_three min_three max_four min_four   -- for this text's walks alone
set_option linter.unusedVariables false
set_option linter.unusedSimpArgs false

/-! ### sequentref01_Bool: function 203 -/
def sequentref01_Bool.f  : Option (Bool × ByteArray × (List (S24))) := some (false, (⟨#[98, 111, 111, 108]⟩ : ByteArray), ([] : List (S24)))
set_option maxHeartbeats 8000000 in
set_option maxRecDepth 100000 in
theorem sequentref01_Bool.calls  (r1 : Bool) (r2 : ByteArray) (r3 : List (S24)) (w : World) (h : sequentref01_Bool.f  = some (r1, r2, r3)) :
 Calls Try.prog 203 #[] w fun e w' => ∃ v2_ : Value, e = .returned (.agg #[.bool r1, .string r2, v2_]) ∧ Kd.R k24 24 w' w.heap.size (fun _ => True) v2_ r3 ∧ Below w.heap.size w w' := by
 have hu24 := Try.underlying24
 have HB := Aside0.mk (Below.refl w.heap.size w)
 have H : (some (false, (⟨#[98, 111, 111, 108]⟩ : ByteArray), ([] : List (S24)))) = some (r1, r2, r3) := h
 clear h
 simp only [Option.some.injEq, Prod.mk.injEq] at H
 obtain ⟨rfl, rfl, rfl⟩ := H
 go_enter Try.func203, Try.ntmps203
 go_wp2_with (first | ((with_reducible refine gate_dst (N := 0) rfl ?_); refine box_event ?hg (N := 0) ?hd (cs := #[.bool false, .string (⟨#[]⟩ : ByteArray), .slice none 0 0]) (t := 24) ?hr ?_; (case hd => rfl); (case hg => rfl); (case hr => first | (go_simp; done) | (go_simp; rfl)); intro gb1111 hg w1 hbox hb; have n0_ := Aside0.mk (below_step bel_ hb); have n1_ := Aside0.mk (hbox); have n2_ := Aside0.mk ((by rw [hg]; exact (below_size bel_) : w.heap.size ≤ gb1111)); have n3_ := Aside0.mk ((by rw [hg]; exact (below_size bel_) : w.heap.size ≤ gb1111)); clear HB; have HB := n0_; have BK1111 := n1_; have GW1111 := n2_; have GE1111 := n3_; clear n0_ n1_ n2_ n3_; clear hb hbox hg; have hcz2_0 : w1.cell? ⟨gb1111, 0, none⟩ = some (.bool false) := (blk_cell BK1111.out 0).trans rfl; have hcz2_1 : w1.cell? ⟨gb1111, 1, none⟩ = some (.string (⟨#[]⟩ : ByteArray)) := (blk_cell BK1111.out 1).trans rfl; have hcz2_2 : w1.cell? ⟨gb1111, 2, none⟩ = some (.slice none 0 0) := (blk_cell BK1111.out 2).trans rfl; have hfz2_0 := blk_frozen BK1111.out 0; have hfz2_1 := blk_frozen BK1111.out 1; have hfz2_2 := blk_frozen BK1111.out 2))
 refine bodyPost_ret (results_cell_row rfl _ _ gb1111 24 #[.bool false, .string (⟨#[98, 111, 111, 108]⟩ : ByteArray), .slice none 0 0] (0, 0) _ rfl (by (with_reducible repeat (first | refine blk_drewN ?_ _ | refine blk_drew ?_ | refine blk_alloc ?_ _)); refine blk_put (cs := #[.bool false, .string (⟨#[98, 111, 111, 108]⟩ : ByteArray), .slice none 0 0]) ?_ 2 _ rfl; (with_reducible repeat (first | refine blk_drewN ?_ _ | refine blk_drew ?_ | refine blk_alloc ?_ _)); refine blk_put (cs := #[.bool false, .string (⟨#[]⟩ : ByteArray), .slice none 0 0]) ?_ 1 _ rfl; (with_reducible repeat (first | refine blk_drewN ?_ _ | refine blk_drew ?_ | refine blk_alloc ?_ _)); refine blk_put (cs := #[.bool false, .string (⟨#[]⟩ : ByteArray), .slice none 0 0]) ?_ 0 _ rfl; (with_reducible repeat (first | refine blk_drewN ?_ _ | refine blk_drew ?_ | refine blk_alloc ?_ _)); exact BK1111.out) Try.underlying24 rfl (by kernel_rfl)) rfl ?_
 exact ⟨_, by first | rfl | (simp [errW_none, errW_some] <;> rfl) | (simp [*, errW_none, errW_some] <;> rfl), by first | exact Kd.R_nil _ _ _ _ _ | exact Kd.N_nil _ _ _ _ _ | exact Kd.V_nil _ _ _ _ _ | exact Kd.Q_nil _ _ _ _ _ | exact Kd.S_nil _ _ _ _ _, bel_⟩

end Go.Proofs.Ytecplbgdalchdaa.Q
