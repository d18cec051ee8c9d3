/- Proved here: parts of the proof of a given statement (HRowSignatureAdds): contracts of the functions that it reaches, what they answer, and in the last text the statement itself. Conditions: those that each theorem names. -/
import Derived.Test.YtgnklkmifcmlhaaZSAX3
import Derived.Test.YtgnklkmifcmlhaaZSAX11
-- written by a program of this session (wip/tools/myprint.py) out of the translation
namespace Go.Proofs.Ytgnklkmifcmlhaa.Q
open Go.RowKit Go.Proofs.YtgnklkmifcmlhaaW.PrintWords Go.Proofs.YtgnklkmifcmlhaaW.PrintLast Go.Proofs.YtgnklkmifcmlhaaW.PrintMore
attribute [local go_sem] max2_int min2_int max_two min_two max_three min_three max_four min_four   -- for this text's walks alone
set_option linter.unusedVariables false
set_option linter.unusedSimpArgs false

attribute [local go_sem high] eqA124
/-! ### sequentref04_Extends: function 96 -/
mutual
def sequentref04_Extends.j0 : Nat → Bool → List (S124) → List (S92) → List (S124) → List (S92) → Option (Bool)
 | 0, _, _, _, _, _ => none
 | k + 1, x22, x908000, x908001, x909000, x909001 => if x22 = true then (some false) else (sequentref04_Extends.l0 k 0 x908000 x908001 x909000 x909001)
def sequentref04_Extends.l0 : Nat → Int → List (S124) → List (S92) → List (S124) → List (S92) → Option (Bool)
 | 0, _, _, _, _, _ => none
 | k + 1, x5, x908000, x908001, x909000, x909001 => if x5 < (x909000.length : Int) then (if 0 ≤ x5 then (if x5 < (x908000.length : Int) then (if (!((((rd_T124 x908000 x5).f0).toList) == (((rd_T124 x909000 x5).f0).toList)) || (!(((rd_T124 x908000 x5).f1) == ((rd_T124 x909000 x5).f1)))) = true then (some false) else (sequentref04_Extends.l0 k (wrap64 (x5 + 1)) x908000 x908001 x909000 x909001)) else (none)) else (none)) else (sequentref04_Extends.l1 k 0 x908000 x908001 x909000 x909001)
def sequentref04_Extends.l1 : Nat → Int → List (S124) → List (S92) → List (S124) → List (S92) → Option (Bool)
 | 0, _, _, _, _, _ => none
 | k + 1, x6, x908000, x908001, x909000, x909001 => if x6 < (x909001.length : Int) then (if 0 ≤ x6 then (if x6 < (x908001.length : Int) then (if ((rd_T92 x908001 x6).f0).toList = ((rd_T92 x909001 x6).f0).toList then ((sequentref01_Same.f k ((rd_T92 x908001 x6).f1.f0) ((rd_T92 x908001 x6).f1.f1) ((rd_T92 x908001 x6).f1.f2) ((rd_T92 x909001 x6).f1.f0) ((rd_T92 x909001 x6).f1.f1) ((rd_T92 x909001 x6).f1.f2)).bind fun t915 => (if t915 = true then (sequentref04_Extends.l1 k (wrap64 (x6 + 1)) x908000 x908001 x909000 x909001) else (some false))) else (some false)) else (none)) else (none)) else (some true)
end
def sequentref04_Extends.f (k : Nat) (l0_0 : List (S124)) (l0_1 : List (S92)) (l1_0 : List (S124)) (l1_1 : List (S92)) : Option (Bool) := if (l0_0.length : Int) < (l1_0.length : Int) then (sequentref04_Extends.j0 k true l0_0 l0_1 l1_0 l1_1) else (sequentref04_Extends.j0 k (decide ((l0_1.length : Int) < (l1_1.length : Int))) l0_0 l0_1 l1_0 l1_1)
def sequentref04_Extends.T6 : Bool × List (List Nat × List Nat) := (true, [([], []), ([0], [0]), ([], []), ([1, 2], [1, 2]), ([3], [3]), ([], []), ([5], [5]), ([], []), ([6, 7], [6, 7]), ([8], [8]), ([4, 9], [4, 9])])
def sequentref04_Extends.B6 : List Nat := [0, 1, 0, 7, 15, 0, 32, 0, 224, 480, 1023]
theorem sequentref04_Extends.tab6 : rtab .any (opsOf Try.f96 6) = sequentref04_Extends.T6 := by kernel_rfl
theorem sequentref04_Extends.bits6 : waitsOk sequentref04_Extends.T6.2 sequentref04_Extends.B6 = true := by kernel_rfl
def sequentref04_Extends.T11 : Bool × List (List Nat × List Nat) := (true, [([], []), ([0], [0]), ([], []), ([1, 2], [1, 2]), ([3], [3]), ([4], [4]), ([], []), ([6], [6]), ([], []), ([7, 8], [7, 8]), ([9], [9]), ([10], [10]), ([5, 11], [5, 11]), ([12], [12]), ([13], [13]), ([14, 13], [13, 14]), ([13], [13]), ([15, 16, 13], [13, 15, 16]), ([17, 13], [13, 17]), ([18, 13], [13, 18]), ([13], [13]), ([20, 13], [13, 20]), ([13], [13]), ([21, 22, 13], [13, 21, 22]), ([23, 13], [13, 23]), ([24, 13], [13, 24]), ([19, 25, 13, 13], [13, 19, 25]), ([26, 13], [13, 26]), ([13, 27], [13, 27])])
def sequentref04_Extends.B11 : List Nat := [0, 1, 0, 7, 15, 31, 0, 64, 0, 448, 960, 1984, 4095, 8191, 16383, 32767, 16383, 131071, 262143, 524287, 16383, 1064959, 16383, 7356415, 15745023, 32522239, 67108863, 134217727, 268435455]
theorem sequentref04_Extends.tab11 : rtab .any (opsOf Try.f96 11) = sequentref04_Extends.T11 := by kernel_rfl
theorem sequentref04_Extends.bits11 : waitsOk sequentref04_Extends.T11.2 sequentref04_Extends.B11 = true := by kernel_rfl
set_option maxHeartbeats 8000000 in
set_option maxRecDepth 100000 in
theorem sequentref04_Extends.calls (k : Nat) (A0_0 : Option Addr) (c0_0 : Nat) (l0_0 : List (S124)) (A0_1 : Option Addr) (c0_1 : Nat) (l0_1 : List (S92)) (A1_0 : Option Addr) (c1_0 : Nat) (l1_0 : List (S124)) (A1_1 : Option Addr) (c1_1 : Nat) (l1_1 : List (S92)) (r : Bool) (w : World) (hr0_0 : Kd.C k124 w A0_0 l0_0.length l0_0) (hc0_0 : l0_0.length ≤ c0_0) (hr0_1 : Kd.C k92 w A0_1 l0_1.length l0_1) (hc0_1 : l0_1.length ≤ c0_1) (hr1_0 : Kd.C k124 w A1_0 l1_0.length l1_0) (hc1_0 : l1_0.length ≤ c1_0) (hr1_1 : Kd.C k92 w A1_1 l1_1.length l1_1) (hc1_1 : l1_1.length ≤ c1_1) (h : sequentref04_Extends.f k l0_0 l0_1 l1_0 l1_1 = some r) :
 Calls Try.prog 96 #[.agg #[.slice A0_0 l0_0.length c0_0, .slice A0_1 l0_1.length c0_1], .agg #[.slice A1_0 l1_0.length c1_0, .slice A1_1 l1_1.length c1_1]] w fun e w' => e = .returned (.bool r) ∧ Below w.heap.size w w' := by
 have hu81 := Try.underlying81
 have hu124 := Try.underlying124
 have hu25 := Try.underlying25
 have HR0_0 := Aside0.mk hr0_0
 have HC0_0 := Aside0.mk hc0_0
 clear hr0_0 hc0_0
 have HR0_1 := Aside0.mk hr0_1
 have HC0_1 := Aside0.mk hc0_1
 clear hr0_1 hc0_1
 have HR1_0 := Aside0.mk hr1_0
 have HC1_0 := Aside0.mk hc1_0
 clear hr1_0 hc1_0
 have HR1_1 := Aside0.mk hr1_1
 have HC1_1 := Aside0.mk hc1_1
 clear hr1_1 hc1_1
 have HB := Aside0.mk (Below.refl w.heap.size w)
 have H : (if (l0_0.length : Int) < (l1_0.length : Int) then (sequentref04_Extends.j0 k true l0_0 l0_1 l1_0 l1_1) else (sequentref04_Extends.j0 k (decide ((l0_1.length : Int) < (l1_1.length : Int))) l0_0 l0_1 l1_0 l1_1)) = some r := h
 clear h
 have HC3 := Aside0.mk H
 clear H
 go_enter Try.func96, Try.ntmps96
 go_upto_region 1 with (first | ((with_reducible refine gate_dst (N := 2) rfl ?_); (try (refine gate_guard (by rfl) ?_; dsimp only)); refine box_event ?hg (N := 2) ?hd (cs := #[.slice A0_0 l0_0.length c0_0, .slice A0_1 l0_1.length c0_1]) (t := 81) ?hr ?_; (case hd => rfl); (case hg => rfl); (case hr => first | (go_simp; done) | (go_simp; rfl)); intro gb907 hg w4 hbox hb; have n0_ := Aside0.mk (below_step bel_ hb); have n1_ := Aside0.mk (hbox); have n2_ := Aside0.mk ((by rw [hg]; exact (below_size bel_) : w.heap.size ≤ gb907)); have n3_ := Aside0.mk ((by rw [hg]; exact (below_size bel_) : w.heap.size ≤ gb907)); clear HB; have HB := n0_; have BK907 := n1_; have GW907 := n2_; have GE907 := n3_; clear n0_ n1_ n2_ n3_; clear hb hbox hg) | ((with_reducible refine gate_dst (N := 3) rfl ?_); (try (refine gate_guard (by rfl) ?_; dsimp only)); refine box_event ?hg (N := 3) ?hd (cs := #[.slice A1_0 l1_0.length c1_0, .slice A1_1 l1_1.length c1_1]) (t := 81) ?hr ?_; (case hd => rfl); (case hg => rfl); (case hr => first | (go_simp; done) | (go_simp; rfl)); intro gb908 hg w5 hbox hb; have n0_ := Aside0.mk (blk_below (g := gb907) (o := .cells #[.slice A0_0 l0_0.length c0_0, .slice A0_1 l0_1.length c0_1] 81 (0, 0)) (bk_ BK907) hb); have n1_ := Aside0.mk (below_step bel_ hb); have n2_ := Aside0.mk (hbox); have n3_ := Aside0.mk ((by rw [hg]; exact (below_size bel_) : w.heap.size ≤ gb908)); have n4_ := Aside0.mk ((by rw [hg]; exact (below_size bel_) : w.heap.size ≤ gb908)); have n5_ := Aside0.mk ((by rw [hg]; exact Nat.ne_of_lt (blk_lt (g := gb907) (o := .cells #[.slice A0_0 l0_0.length c0_0, .slice A0_1 l0_1.length c0_1] 81 (0, 0)) (bk_ BK907)) : gb907 ≠ gb908)); have n6_ := Aside0.mk ((by rw [hg]; exact Nat.ne_of_gt (blk_lt (g := gb907) (o := .cells #[.slice A0_0 l0_0.length c0_0, .slice A0_1 l0_1.length c0_1] 81 (0, 0)) (bk_ BK907)) : gb908 ≠ gb907)); clear BK907; clear HB; have BK907 := n0_; have HB := n1_; have BK908 := n2_; have GW908 := n3_; have GE908 := n4_; have NB907_908 := n5_; have NB908_907 := n6_; clear n0_ n1_ n2_ n3_ n4_ n5_ n6_; clear hb hbox hg))
 (try simp only [Act.put, List.setIfInBounds_toArray, List.set_cons_zero, List.set_cons_succ])
 go_cut [22] (fun v22 wc => ∃ (kq : Nat) (x22_2 : Bool), v22 = .bool x22_2 ∧ Aside0 (sequentref04_Extends.j0 kq x22_2 l0_0 l0_1 l1_0 l1_1 = some r) ∧ Aside0 (kq ≤ k) ∧ Aside0 (wc.heap[gb907]? = some (.cells #[(.slice A0_0 l0_0.length c0_0), (.slice A0_1 l0_1.length c0_1)] 81 (0, 0))) ∧ Aside0 (wc.heap[gb908]? = some (.cells #[(.slice A1_0 l1_0.length c1_0), (.slice A1_1 l1_1.length c1_1)] 81 (0, 0))) ∧ Aside0 (Below w.heap.size w wc))
 case first =>
  have H := HC3.out
  clear HC3
  by_cases c6 : (l0_0.length : Int) < (l1_0.length : Int)
  ·rw [if_pos c6] at H
   have c6b0 : decide ((l0_0.length : Int) < (l1_0.length : Int)) = true := decide_eq_true c6
   have c6b1 : decide (l0_0.length < l1_0.length) = true := decide_eq_true (Int.ofNat_lt.mp c6)
   clear c6
   (first | rw [c6b0] | (simp only [i64_w, i32_w]; rw [c6b0]) | skip)
   have H' := Aside0.mk H
   clear H
   have hnb7 := NB907_908.out
   have hnc7 := NB908_907.out
   have hcz8_0 : w5.cell? ⟨gb907, 0, none⟩ = some (.slice A0_0 l0_0.length c0_0) := (blk_cell BK907.out 0).trans rfl
   have hcz8_1 : w5.cell? ⟨gb907, 1, none⟩ = some (.slice A0_1 l0_1.length c0_1) := (blk_cell BK907.out 1).trans rfl
   have hfz8_0 := blk_frozen BK907.out 0
   have hfz8_1 := blk_frozen BK907.out 1
   have hcz9_0 : w5.cell? ⟨gb908, 0, none⟩ = some (.slice A1_0 l1_0.length c1_0) := (blk_cell BK908.out 0).trans rfl
   have hcz9_1 : w5.cell? ⟨gb908, 1, none⟩ = some (.slice A1_1 l1_1.length c1_1) := (blk_cell BK908.out 1).trans rfl
   have hfz9_0 := blk_frozen BK908.out 0
   have hfz9_1 := blk_frozen BK908.out 1
   go_wp2
   go_meet
   case rel => exact ⟨_, (true), (by first | rfl | (simp; done) | (simp [*]; done)), H', ⟨by first | omega | exact Nat.le_refl _⟩, ⟨bk_ BK907⟩, ⟨bk_ BK908⟩, ⟨bel_⟩⟩
  ·rw [if_neg c6] at H
   have c6b0 : decide ((l0_0.length : Int) < (l1_0.length : Int)) = false := decide_eq_false c6
   have c6b1 : decide (l0_0.length < l1_0.length) = false := decide_eq_false (fun h => c6 (Int.ofNat_lt.mpr h))
   clear c6
   (first | rw [c6b0] | (simp only [i64_w, i32_w]; rw [c6b0]) | skip)
   have H' := Aside0.mk H
   clear H
   have hnb10 := NB907_908.out
   have hnc10 := NB908_907.out
   have hcz11_0 : w5.cell? ⟨gb907, 0, none⟩ = some (.slice A0_0 l0_0.length c0_0) := (blk_cell BK907.out 0).trans rfl
   have hcz11_1 : w5.cell? ⟨gb907, 1, none⟩ = some (.slice A0_1 l0_1.length c0_1) := (blk_cell BK907.out 1).trans rfl
   have hfz11_0 := blk_frozen BK907.out 0
   have hfz11_1 := blk_frozen BK907.out 1
   have hcz12_0 : w5.cell? ⟨gb908, 0, none⟩ = some (.slice A1_0 l1_0.length c1_0) := (blk_cell BK908.out 0).trans rfl
   have hcz12_1 : w5.cell? ⟨gb908, 1, none⟩ = some (.slice A1_1 l1_1.length c1_1) := (blk_cell BK908.out 1).trans rfl
   have hfz12_0 := blk_frozen BK908.out 0
   have hfz12_1 := blk_frozen BK908.out 1
   go_wp2
   go_meet
   case rel => exact ⟨_, (decide ((l0_1.length : Int) < (l1_1.length : Int))), (by first | rfl | (simp; done) | (simp [*]; done)), H', ⟨by first | omega | exact Nat.le_refl _⟩, ⟨bk_ BK907⟩, ⟨bk_ BK908⟩, ⟨bel_⟩⟩
 case rest =>
  clear HC3
  try clear c1
  try clear p2
  try clear c6
  try clear c6b0
  try clear c6b1
  try clear c7
  try clear c9
  try clear c10
  try clear hcz11_0
  try clear hcz11_1
  try clear hcz12_0
  try clear hcz12_1
  try clear hcz8_0
  try clear hcz8_1
  try clear hcz9_0
  try clear hcz9_1
  try clear hfz11_0
  try clear hfz11_1
  try clear hfz12_0
  try clear hfz12_1
  try clear hfz8_0
  try clear hfz8_1
  try clear hfz9_0
  try clear hfz9_1
  obtain ⟨kq, x22_2, rfl, HA, HJ2, BK907, BK908, HB⟩ := hcut
  cases kq with
  | zero => exact absurd HA.out (by simp [sequentref04_Extends.j0])
  | succ kj2 =>
   have H := HA.out
   clear HA
   simp only [sequentref04_Extends.j0] at H
   by_cases c13 : x22_2 = true
   ·subst c13
    have H1 : (some false) = some r := by rw [if_pos rfl] at H; exact H
    clear H
    have H := H1
    clear H1
    obtain rfl := Option.some.inj H
    go_wp2
    go_ret
    exact ⟨by first | rfl | (simp [errW_none, errW_some] <;> rfl) | (simp [*, errW_none, errW_some] <;> rfl), bel_⟩
   ·replace c13 := Bool.eq_false_iff.mpr c13
    subst c13
    have H1 : (sequentref04_Extends.l0 kj2 0 l0_0 l0_1 l1_0 l1_1) = some r := by rw [if_neg (show ¬ (false = true) by decide)] at H; exact H
    clear H
    have H := H1
    clear H1
    have H' := Aside0.mk H
    clear H
    go_wp2
    go_loopg [5] kj2 (fun kq v5 w' => ∃ (x5_2 : Int), v5 = .int .i64 x5_2 ∧ Aside0 (sequentref04_Extends.l0 kq x5_2 l0_0 l0_1 l1_0 l1_1 = some r) ∧ Aside0 (kq ≤ kj2) ∧ Aside0 (w'.heap[gb907]? = some (.cells #[(.slice A0_0 l0_0.length c0_0), (.slice A0_1 l0_1.length c0_1)] 81 (0, 0))) ∧ Aside0 (w'.heap[gb908]? = some (.cells #[(.slice A1_0 l1_0.length c1_0), (.slice A1_1 l1_1.length c1_1)] 81 (0, 0))) ∧ Aside0 (Below w.heap.size w w'))
    case atStart => exact ⟨(0), (by first | rfl | (simp; done) | (simp [*]; done)), H', ⟨Nat.le_refl _⟩, ⟨bk_ BK907⟩, ⟨bk_ BK908⟩, ⟨bel_⟩⟩
    case round =>
     clear H'
     try clear c1
     try clear p2
     try clear c6
     try clear c6b0
     try clear c6b1
     try clear c7
     try clear c9
     try clear c10
     try clear c13
     try clear hcz11_0
     try clear hcz11_1
     try clear hcz12_0
     try clear hcz12_1
     try clear hcz8_0
     try clear hcz8_1
     try clear hcz9_0
     try clear hcz9_1
     try clear hfz11_0
     try clear hfz11_1
     try clear hfz12_0
     try clear hfz12_1
     try clear hfz8_0
     try clear hfz8_1
     try clear hfz9_0
     try clear hfz9_1
     try clear p2
     obtain ⟨x5_2, rfl, HA, HK2, BK907, BK908, HB⟩ := hrel
     cases gk with
     | zero => exact absurd HA.out (by simp [sequentref04_Extends.l0])
     | succ k2 =>
      have H := HA.out
      clear HA
      simp only [sequentref04_Extends.l0] at H
      by_cases c14 : x5_2 < (l1_0.length : Int)
      ·rw [if_pos c14] at H
       have c14b0 : decide (x5_2 < (l1_0.length : Int)) = true := decide_eq_true c14
       clear c14
       by_cases c15 : 0 ≤ x5_2
       ·rw [if_pos c15] at H
        have c15b0 : decide (0 ≤ x5_2) = true := decide_eq_true c15
        clear c15
        by_cases c16 : x5_2 < (l0_0.length : Int)
        ·rw [if_pos c16] at H
         have c16b0 : decide (x5_2 < (l0_0.length : Int)) = true := decide_eq_true c16
         clear c16
         by_cases c17 : (!((((rd_T124 l0_0 x5_2).f0).toList) == (((rd_T124 l1_0 x5_2).f0).toList)) || (!(((rd_T124 l0_0 x5_2).f1) == ((rd_T124 l1_0 x5_2).f1)))) = true
         ·rw [if_pos c17] at H
          have c17b0 : (!((((rd_T124 l0_0 x5_2).f0).toList) == (((rd_T124 l1_0 x5_2).f0).toList)) || (!(((rd_T124 l0_0 x5_2).f1) == ((rd_T124 l1_0 x5_2).f1)))) = true := c17
          clear c17
          obtain rfl := Option.some.inj H
          have hnb18 := NB908_907.out
          have hnc18 := NB907_908.out
          have hcz19_0 : wr.cell? ⟨gb908, 0, none⟩ = some (.slice A1_0 l1_0.length c1_0) := (blk_cell BK908.out 0).trans rfl
          have hcz19_1 : wr.cell? ⟨gb908, 1, none⟩ = some (.slice A1_1 l1_1.length c1_1) := (blk_cell BK908.out 1).trans rfl
          have hfz19_0 := blk_frozen BK908.out 0
          have hfz19_1 := blk_frozen BK908.out 1
          try go_wp2
          have n0_ := Aside0.mk (blk_drew BK907.out)
          have n1_ := Aside0.mk (blk_drew BK908.out)
          have n2_ := Aside0.mk (below_drew1 HB.out)
          clear BK907
          clear BK908
          clear HB
          have BK907 := n0_
          have BK908 := n1_
          have HB := n2_
          clear n0_ n1_ n2_
          have p909 : 0 ≤ (x5_2 : Int) := dq_
          have q909 : x5_2 < (l0_0.length : Int) := dq_
          obtain ⟨ad909, e909, hx909_0, hx909_1⟩ := at_T124 HR0_0.out x5_2 p909 q909
          have hw909_1 := hx909_1
          have hw909_0 := hx909_0
          cases e909
          replace hx909_0 := pw_cell_below HB.out hx909_0
          replace hx909_1 := pw_cell_below HB.out hx909_1
          replace p909 := eq_true p909
          replace q909 := eq_true q909
          have p910 : 0 ≤ (x5_2 : Int) := dq_
          have q910 : x5_2 < (l1_0.length : Int) := dq_
          obtain ⟨ad910, e910, hx910_0, hx910_1⟩ := at_T124 HR1_0.out x5_2 p910 q910
          have hw910_1 := hx910_1
          have hw910_0 := hx910_0
          cases e910
          replace hx910_0 := pw_cell_below HB.out hx910_0
          replace hx910_1 := pw_cell_below HB.out hx910_1
          replace p910 := eq_true p910
          replace q910 := eq_true q910
          refine start_ (n := 11) (S := fun w' => w'.cell? ⟨gb907, 0, none⟩ = some (.slice (some ad909) l0_0.length c0_0) ∧ w'.cell? ⟨gb907, 1, none⟩ = some (.slice A0_1 l0_1.length c0_1) ∧ w'.cell? ⟨gb908, 0, none⟩ = some (.slice (some ad910) l1_0.length c1_0) ∧ w'.cell? ⟨gb908, 1, none⟩ = some (.slice A1_1 l1_1.length c1_1) ∧ w'.cell? (ad909.add ((x5_2).toNat * 2)) = some (.string ((rd_T124 l0_0 x5_2).f0)) ∧ w'.cell? ⟨(ad909.add ((x5_2).toNat * 2)).block, (ad909.add ((x5_2).toNat * 2)).off + 1, none⟩ = some (.int .i64 ((rd_T124 l0_0 x5_2).f1)) ∧ w'.cell? (ad910.add ((x5_2).toNat * 2)) = some (.string ((rd_T124 l1_0 x5_2).f0)) ∧ w'.cell? ⟨(ad910.add ((x5_2).toNat * 2)).block, (ad910.add ((x5_2).toNat * 2)).off + 1, none⟩ = some (.int .i64 ((rd_T124 l1_0 x5_2).f1))) (ds := []) #[false, false, false, false, false, false, false, false, false, false, false] (by kernel_rfl) rfl rfl ⟨(blk_cell BK907.out 0).trans rfl, (blk_cell BK907.out 1).trans rfl, (blk_cell BK908.out 0).trans rfl, (blk_cell BK908.out 1).trans rfl, (pw_cell_below HB.out hw909_0), (pw_cell_below HB.out hw909_1), (pw_cell_below HB.out hw910_0), (pw_cell_below HB.out hw910_1)⟩ (fun hHeld => ?_); refine with_tabW sequentref04_Extends.tab6 sequentref04_Extends.bits6 (fun HT_ HW_ => ?_)
          generalize wr.drew = w20 at BK907 BK908 HB hx909_0 hx909_1 hx910_0 hx910_1 hHeld ⊢
          refine pure_ (i := 0) (N := some 30) (v := ?_) (a' := ?_) #[true, false, false, false, false, false, false, false, false, false, false] rfl rfl (any_of HT_.out (by kernel_rfl)) (fun _ _ _ h => h) (Or.inl ⟨by rfl, ?_⟩) ?_ ?_
          rotate_left
          ·intro w'
           go_simp
           with_reducible rfl
          rotate_left
          ·simp only [Act.put, List.setIfInBounds_toArray, List.set_cons_zero, List.set_cons_succ, i64_w, i32_w]
           rfl
          refine pure_ (i := 2) (N := some 32) (v := ?_) (a' := ?_) #[true, false, true, false, false, false, false, false, false, false, false] rfl rfl (any_of HT_.out (by kernel_rfl)) (fun _ _ _ h => h) (Or.inl ⟨by rfl, ?_⟩) ?_ ?_
          rotate_left
          ·intro w'
           go_simp
           with_reducible rfl
          rotate_left
          ·simp only [Act.put, List.setIfInBounds_toArray, List.set_cons_zero, List.set_cons_succ, i64_w, i32_w]
           rfl
          refine pure_ (i := 5) (N := some 35) (v := ?_) (a' := ?_) #[true, false, true, false, false, true, false, false, false, false, false] rfl rfl (any_of HT_.out (by kernel_rfl)) (fun _ _ _ h => h) (Or.inl ⟨by rfl, ?_⟩) ?_ ?_
          rotate_left
          ·intro w'
           go_simp
           with_reducible rfl
          rotate_left
          ·simp only [Act.put, List.setIfInBounds_toArray, List.set_cons_zero, List.set_cons_succ, i64_w, i32_w]
           rfl
          refine pure_ (i := 7) (N := some 37) (v := ?_) (a' := ?_) #[true, false, true, false, false, true, false, true, false, false, false] rfl rfl (any_of HT_.out (by kernel_rfl)) (fun _ _ _ h => h) (Or.inl ⟨by rfl, ?_⟩) ?_ ?_
          rotate_left
          ·intro w'
           go_simp
           with_reducible rfl
          rotate_left
          ·simp only [Act.put, List.setIfInBounds_toArray, List.set_cons_zero, List.set_cons_succ, i64_w, i32_w]
           rfl
          refine take_ (i := 1) (N := some 31) (v := ?_) (a' := ?_) #[true, true, true, false, false, true, false, true, false, false, false] rfl rfl (take_ofW HT_.out HW_.out (by kernel_rfl)) (fun _ _ _ h => h) (Or.inl ⟨by rfl, ?_⟩) hHeld ?_ ?_
          rotate_left
          ·rintro w' ⟨s0, s1, s2, s3, s4, s5, s6, s7⟩
           go_simp
           with_reducible rfl
          rotate_left
          ·simp only [Act.put, List.setIfInBounds_toArray, List.set_cons_zero, List.set_cons_succ, i64_w, i32_w]
           rfl
          refine pure_ (i := 3) (N := some 33) (v := ?_) (a' := ?_) #[true, true, true, true, false, true, false, true, false, false, false] rfl rfl (any_of HT_.out (by kernel_rfl)) (fun _ _ _ h => h) (Or.inl ⟨by rfl, ?_⟩) ?_ ?_
          rotate_left
          ·intro w'
           go_simp
           with_reducible rfl
          rotate_left
          ·simp only [Act.put, List.setIfInBounds_toArray, List.set_cons_zero, List.set_cons_succ, i64_w, i32_w]
           rfl
          refine take_ (i := 4) (N := some 34) (v := ?_) (a' := ?_) #[true, true, true, true, true, true, false, true, false, false, false] rfl rfl (take_ofW HT_.out HW_.out (by kernel_rfl)) (fun _ _ _ h => h) (Or.inl ⟨by rfl, ?_⟩) hHeld ?_ ?_
          rotate_left
          ·rintro w' ⟨s0, s1, s2, s3, s4, s5, s6, s7⟩
           go_simp
           with_reducible rfl
          rotate_left
          ·simp only [Act.put, List.setIfInBounds_toArray, List.set_cons_zero, List.set_cons_succ, i64_w, i32_w]
           rfl
          refine take_ (i := 6) (N := some 36) (v := ?_) (a' := ?_) #[true, true, true, true, true, true, true, true, false, false, false] rfl rfl (take_ofW HT_.out HW_.out (by kernel_rfl)) (fun _ _ _ h => h) (Or.inl ⟨by rfl, ?_⟩) hHeld ?_ ?_
          rotate_left
          ·rintro w' ⟨s0, s1, s2, s3, s4, s5, s6, s7⟩
           go_simp
           with_reducible rfl
          rotate_left
          ·simp only [Act.put, List.setIfInBounds_toArray, List.set_cons_zero, List.set_cons_succ, i64_w, i32_w]
           rfl
          refine pure_ (i := 8) (N := some 38) (v := ?_) (a' := ?_) #[true, true, true, true, true, true, true, true, true, false, false] rfl rfl (any_of HT_.out (by kernel_rfl)) (fun _ _ _ h => h) (Or.inl ⟨by rfl, ?_⟩) ?_ ?_
          rotate_left
          ·intro w'
           go_simp
           with_reducible rfl
          rotate_left
          ·simp only [Act.put, List.setIfInBounds_toArray, List.set_cons_zero, List.set_cons_succ, i64_w, i32_w]
           rfl
          refine take_ (i := 9) (N := some 39) (v := ?_) (a' := ?_) #[true, true, true, true, true, true, true, true, true, true, false] rfl rfl (take_ofW HT_.out HW_.out (by kernel_rfl)) (fun _ _ _ h => h) (Or.inl ⟨by rfl, ?_⟩) hHeld ?_ ?_
          rotate_left
          ·rintro w' ⟨s0, s1, s2, s3, s4, s5, s6, s7⟩
           go_simp
           with_reducible rfl
          rotate_left
          ·simp only [Act.put, List.setIfInBounds_toArray, List.set_cons_zero, List.set_cons_succ, i64_w, i32_w]
           rfl
          refine pure_ (i := 10) (N := some 40) (v := ?_) (a' := ?_) #[true, true, true, true, true, true, true, true, true, true, true] rfl rfl (any_of HT_.out (by kernel_rfl)) (fun _ _ _ h => h) (Or.inl ⟨by rfl, ?_⟩) ?_ ?_
          rotate_left
          ·intro w'
           go_simp
           with_reducible rfl
          rotate_left
          ·simp only [Act.put, List.setIfInBounds_toArray, List.set_cons_zero, List.set_cons_succ, i64_w, i32_w]
           rfl
          refine done_ (done_of HT_.out (by kernel_rfl)) ?_
          try go_wp2
          go_ret
          exact ⟨by first | rfl | (simp [errW_none, errW_some] <;> rfl) | (simp [*, errW_none, errW_some] <;> rfl), bel_⟩
         ·rw [if_neg c17] at H
          have c17b0 : (!((((rd_T124 l0_0 x5_2).f0).toList) == (((rd_T124 l1_0 x5_2).f0).toList)) || (!(((rd_T124 l0_0 x5_2).f1) == ((rd_T124 l1_0 x5_2).f1)))) = false := by simpa using c17
          clear c17
          have H' := Aside0.mk H
          clear H
          have hnb21 := NB908_907.out
          have hnc21 := NB907_908.out
          have hcz22_0 : wr.cell? ⟨gb908, 0, none⟩ = some (.slice A1_0 l1_0.length c1_0) := (blk_cell BK908.out 0).trans rfl
          have hcz22_1 : wr.cell? ⟨gb908, 1, none⟩ = some (.slice A1_1 l1_1.length c1_1) := (blk_cell BK908.out 1).trans rfl
          have hfz22_0 := blk_frozen BK908.out 0
          have hfz22_1 := blk_frozen BK908.out 1
          try go_wp2
          have n0_ := Aside0.mk (blk_drew BK907.out)
          have n1_ := Aside0.mk (blk_drew BK908.out)
          have n2_ := Aside0.mk (below_drew1 HB.out)
          clear BK907
          clear BK908
          clear HB
          have BK907 := n0_
          have BK908 := n1_
          have HB := n2_
          clear n0_ n1_ n2_
          have p909 : 0 ≤ (x5_2 : Int) := dq_
          have q909 : x5_2 < (l0_0.length : Int) := dq_
          obtain ⟨ad909, e909, hx909_0, hx909_1⟩ := at_T124 HR0_0.out x5_2 p909 q909
          have hw909_1 := hx909_1
          have hw909_0 := hx909_0
          cases e909
          replace hx909_0 := pw_cell_below HB.out hx909_0
          replace hx909_1 := pw_cell_below HB.out hx909_1
          replace p909 := eq_true p909
          replace q909 := eq_true q909
          have p910 : 0 ≤ (x5_2 : Int) := dq_
          have q910 : x5_2 < (l1_0.length : Int) := dq_
          obtain ⟨ad910, e910, hx910_0, hx910_1⟩ := at_T124 HR1_0.out x5_2 p910 q910
          have hw910_1 := hx910_1
          have hw910_0 := hx910_0
          cases e910
          replace hx910_0 := pw_cell_below HB.out hx910_0
          replace hx910_1 := pw_cell_below HB.out hx910_1
          replace p910 := eq_true p910
          replace q910 := eq_true q910
          refine start_ (n := 11) (S := fun w' => w'.cell? ⟨gb907, 0, none⟩ = some (.slice (some ad909) l0_0.length c0_0) ∧ w'.cell? ⟨gb907, 1, none⟩ = some (.slice A0_1 l0_1.length c0_1) ∧ w'.cell? ⟨gb908, 0, none⟩ = some (.slice (some ad910) l1_0.length c1_0) ∧ w'.cell? ⟨gb908, 1, none⟩ = some (.slice A1_1 l1_1.length c1_1) ∧ w'.cell? (ad909.add ((x5_2).toNat * 2)) = some (.string ((rd_T124 l0_0 x5_2).f0)) ∧ w'.cell? ⟨(ad909.add ((x5_2).toNat * 2)).block, (ad909.add ((x5_2).toNat * 2)).off + 1, none⟩ = some (.int .i64 ((rd_T124 l0_0 x5_2).f1)) ∧ w'.cell? (ad910.add ((x5_2).toNat * 2)) = some (.string ((rd_T124 l1_0 x5_2).f0)) ∧ w'.cell? ⟨(ad910.add ((x5_2).toNat * 2)).block, (ad910.add ((x5_2).toNat * 2)).off + 1, none⟩ = some (.int .i64 ((rd_T124 l1_0 x5_2).f1))) (ds := []) #[false, false, false, false, false, false, false, false, false, false, false] (by kernel_rfl) rfl rfl ⟨(blk_cell BK907.out 0).trans rfl, (blk_cell BK907.out 1).trans rfl, (blk_cell BK908.out 0).trans rfl, (blk_cell BK908.out 1).trans rfl, (pw_cell_below HB.out hw909_0), (pw_cell_below HB.out hw909_1), (pw_cell_below HB.out hw910_0), (pw_cell_below HB.out hw910_1)⟩ (fun hHeld => ?_); refine with_tabW sequentref04_Extends.tab6 sequentref04_Extends.bits6 (fun HT_ HW_ => ?_)
          generalize wr.drew = w23 at BK907 BK908 HB hx909_0 hx909_1 hx910_0 hx910_1 hHeld ⊢
          refine pure_ (i := 0) (N := some 30) (v := ?_) (a' := ?_) #[true, false, false, false, false, false, false, false, false, false, false] rfl rfl (any_of HT_.out (by kernel_rfl)) (fun _ _ _ h => h) (Or.inl ⟨by rfl, ?_⟩) ?_ ?_
          rotate_left
          ·intro w'
           go_simp
           with_reducible rfl
          rotate_left
          ·simp only [Act.put, List.setIfInBounds_toArray, List.set_cons_zero, List.set_cons_succ, i64_w, i32_w]
           rfl
          refine pure_ (i := 2) (N := some 32) (v := ?_) (a' := ?_) #[true, false, true, false, false, false, false, false, false, false, false] rfl rfl (any_of HT_.out (by kernel_rfl)) (fun _ _ _ h => h) (Or.inl ⟨by rfl, ?_⟩) ?_ ?_
          rotate_left
          ·intro w'
           go_simp
           with_reducible rfl
          rotate_left
          ·simp only [Act.put, List.setIfInBounds_toArray, List.set_cons_zero, List.set_cons_succ, i64_w, i32_w]
           rfl
          refine pure_ (i := 5) (N := some 35) (v := ?_) (a' := ?_) #[true, false, true, false, false, true, false, false, false, false, false] rfl rfl (any_of HT_.out (by kernel_rfl)) (fun _ _ _ h => h) (Or.inl ⟨by rfl, ?_⟩) ?_ ?_
          rotate_left
          ·intro w'
           go_simp
           with_reducible rfl
          rotate_left
          ·simp only [Act.put, List.setIfInBounds_toArray, List.set_cons_zero, List.set_cons_succ, i64_w, i32_w]
           rfl
          refine pure_ (i := 7) (N := some 37) (v := ?_) (a' := ?_) #[true, false, true, false, false, true, false, true, false, false, false] rfl rfl (any_of HT_.out (by kernel_rfl)) (fun _ _ _ h => h) (Or.inl ⟨by rfl, ?_⟩) ?_ ?_
          rotate_left
          ·intro w'
           go_simp
           with_reducible rfl
          rotate_left
          ·simp only [Act.put, List.setIfInBounds_toArray, List.set_cons_zero, List.set_cons_succ, i64_w, i32_w]
           rfl
          refine take_ (i := 1) (N := some 31) (v := ?_) (a' := ?_) #[true, true, true, false, false, true, false, true, false, false, false] rfl rfl (take_ofW HT_.out HW_.out (by kernel_rfl)) (fun _ _ _ h => h) (Or.inl ⟨by rfl, ?_⟩) hHeld ?_ ?_
          rotate_left
          ·rintro w' ⟨s0, s1, s2, s3, s4, s5, s6, s7⟩
           go_simp
           with_reducible rfl
          rotate_left
          ·simp only [Act.put, List.setIfInBounds_toArray, List.set_cons_zero, List.set_cons_succ, i64_w, i32_w]
           rfl
          refine pure_ (i := 3) (N := some 33) (v := ?_) (a' := ?_) #[true, true, true, true, false, true, false, true, false, false, false] rfl rfl (any_of HT_.out (by kernel_rfl)) (fun _ _ _ h => h) (Or.inl ⟨by rfl, ?_⟩) ?_ ?_
          rotate_left
          ·intro w'
           go_simp
           with_reducible rfl
          rotate_left
          ·simp only [Act.put, List.setIfInBounds_toArray, List.set_cons_zero, List.set_cons_succ, i64_w, i32_w]
           rfl
          refine take_ (i := 4) (N := some 34) (v := ?_) (a' := ?_) #[true, true, true, true, true, true, false, true, false, false, false] rfl rfl (take_ofW HT_.out HW_.out (by kernel_rfl)) (fun _ _ _ h => h) (Or.inl ⟨by rfl, ?_⟩) hHeld ?_ ?_
          rotate_left
          ·rintro w' ⟨s0, s1, s2, s3, s4, s5, s6, s7⟩
           go_simp
           with_reducible rfl
          rotate_left
          ·simp only [Act.put, List.setIfInBounds_toArray, List.set_cons_zero, List.set_cons_succ, i64_w, i32_w]
           rfl
          refine take_ (i := 6) (N := some 36) (v := ?_) (a' := ?_) #[true, true, true, true, true, true, true, true, false, false, false] rfl rfl (take_ofW HT_.out HW_.out (by kernel_rfl)) (fun _ _ _ h => h) (Or.inl ⟨by rfl, ?_⟩) hHeld ?_ ?_
          rotate_left
          ·rintro w' ⟨s0, s1, s2, s3, s4, s5, s6, s7⟩
           go_simp
           with_reducible rfl
          rotate_left
          ·simp only [Act.put, List.setIfInBounds_toArray, List.set_cons_zero, List.set_cons_succ, i64_w, i32_w]
           rfl
          refine pure_ (i := 8) (N := some 38) (v := ?_) (a' := ?_) #[true, true, true, true, true, true, true, true, true, false, false] rfl rfl (any_of HT_.out (by kernel_rfl)) (fun _ _ _ h => h) (Or.inl ⟨by rfl, ?_⟩) ?_ ?_
          rotate_left
          ·intro w'
           go_simp
           with_reducible rfl
          rotate_left
          ·simp only [Act.put, List.setIfInBounds_toArray, List.set_cons_zero, List.set_cons_succ, i64_w, i32_w]
           rfl
          refine take_ (i := 9) (N := some 39) (v := ?_) (a' := ?_) #[true, true, true, true, true, true, true, true, true, true, false] rfl rfl (take_ofW HT_.out HW_.out (by kernel_rfl)) (fun _ _ _ h => h) (Or.inl ⟨by rfl, ?_⟩) hHeld ?_ ?_
          rotate_left
          ·rintro w' ⟨s0, s1, s2, s3, s4, s5, s6, s7⟩
           go_simp
           with_reducible rfl
          rotate_left
          ·simp only [Act.put, List.setIfInBounds_toArray, List.set_cons_zero, List.set_cons_succ, i64_w, i32_w]
           rfl
          refine pure_ (i := 10) (N := some 40) (v := ?_) (a' := ?_) #[true, true, true, true, true, true, true, true, true, true, true] rfl rfl (any_of HT_.out (by kernel_rfl)) (fun _ _ _ h => h) (Or.inl ⟨by rfl, ?_⟩) ?_ ?_
          rotate_left
          ·intro w'
           go_simp
           with_reducible rfl
          rotate_left
          ·simp only [Act.put, List.setIfInBounds_toArray, List.set_cons_zero, List.set_cons_succ, i64_w, i32_w]
           rfl
          refine done_ (done_of HT_.out (by kernel_rfl)) ?_
          try go_wp2
          go_roundg k2
          case measure => have := HJ2.out; have := HK2.out; omega
          case rel => exact ⟨(wrap64 (x5_2 + 1)), (by first | rfl | (simp; done) | (simp [*]; done)), H', ⟨by have := HJ2.out; have := HK2.out; omega⟩, ⟨bk_ BK907⟩, ⟨bk_ BK908⟩, ⟨bel_⟩⟩
        ·rw [if_neg c16] at H
         exact absurd H (by simp)
       ·rw [if_neg c15] at H
        exact absurd H (by simp)
      ·rw [if_neg c14] at H
       have c14b0 : decide (x5_2 < (l1_0.length : Int)) = false := decide_eq_false c14
       clear c14
       have H' := Aside0.mk H
       clear H
       have hnb24 := NB908_907.out
       have hnc24 := NB907_908.out
       have hcz25_0 : wr.cell? ⟨gb908, 0, none⟩ = some (.slice A1_0 l1_0.length c1_0) := (blk_cell BK908.out 0).trans rfl
       have hcz25_1 : wr.cell? ⟨gb908, 1, none⟩ = some (.slice A1_1 l1_1.length c1_1) := (blk_cell BK908.out 1).trans rfl
       have hfz25_0 := blk_frozen BK908.out 0
       have hfz25_1 := blk_frozen BK908.out 1
       go_wp2
       go_loopg [6] k2 (fun kq v6 w' => ∃ (x6_3 : Int), v6 = .int .i64 x6_3 ∧ Aside0 (sequentref04_Extends.l1 kq x6_3 l0_0 l0_1 l1_0 l1_1 = some r) ∧ Aside0 (kq ≤ k2) ∧ Aside0 (w'.heap[gb907]? = some (.cells #[(.slice A0_0 l0_0.length c0_0), (.slice A0_1 l0_1.length c0_1)] 81 (0, 0))) ∧ Aside0 (w'.heap[gb908]? = some (.cells #[(.slice A1_0 l1_0.length c1_0), (.slice A1_1 l1_1.length c1_1)] 81 (0, 0))) ∧ Aside0 (Below w.heap.size w w'))
       case atStart => exact ⟨(0), (by first | rfl | (simp; done) | (simp [*]; done)), H', ⟨Nat.le_refl _⟩, ⟨bk_ BK907⟩, ⟨bk_ BK908⟩, ⟨bel_⟩⟩
       case round =>
        clear H'
        try clear c1
        try clear c2
        try clear p2
        try clear c6
        try clear c6b0
        try clear c6b1
        try clear p6
        try clear c7
        try clear c9
        try clear p9
        try clear q9
        try clear hx9
        try clear c10
        try clear c13
        try clear c14
        try clear c14b0
        try clear c15
        try clear c15b0
        try clear c16
        try clear c16b0
        try clear c17
        try clear c17b0
        try clear c18
        try clear c21
        try clear c24
        try clear hcz11_0
        try clear hcz11_1
        try clear hcz12_0
        try clear hcz12_1
        try clear hcz19_0
        try clear hcz19_1
        try clear hcz22_0
        try clear hcz22_1
        try clear hcz25_0
        try clear hcz25_1
        try clear hcz8_0
        try clear hcz8_1
        try clear hcz9_0
        try clear hcz9_1
        try clear hfz11_0
        try clear hfz11_1
        try clear hfz12_0
        try clear hfz12_1
        try clear hfz19_0
        try clear hfz19_1
        try clear hfz22_0
        try clear hfz22_1
        try clear hfz25_0
        try clear hfz25_1
        try clear hfz8_0
        try clear hfz8_1
        try clear hfz9_0
        try clear hfz9_1
        try clear hx909_0
        try clear hx909_1
        try clear hx910_0
        try clear hx910_1
        try clear p2
        try clear p909
        try clear p910
        try clear q909
        try clear q910
        obtain ⟨x6_3, rfl, HA, HK3, BK907, BK908, HB⟩ := hrel
        cases gk with
        | zero => exact absurd HA.out (by simp [sequentref04_Extends.l1])
        | succ k3 =>
         have H := HA.out
         clear HA
         simp only [sequentref04_Extends.l1] at H
         by_cases c26 : x6_3 < (l1_1.length : Int)
         ·rw [if_pos c26] at H
          have c26b0 : decide (x6_3 < (l1_1.length : Int)) = true := decide_eq_true c26
          clear c26
          by_cases c27 : 0 ≤ x6_3
          ·rw [if_pos c27] at H
           have c27b0 : decide (0 ≤ x6_3) = true := decide_eq_true c27
           clear c27
           by_cases c28 : x6_3 < (l0_1.length : Int)
           ·rw [if_pos c28] at H
            have c28b0 : decide (x6_3 < (l0_1.length : Int)) = true := decide_eq_true c28
            clear c28
            by_cases c29 : ((rd_T92 l0_1 x6_3).f0).toList = ((rd_T92 l1_1 x6_3).f0).toList
            ·rw [if_pos c29] at H
             have c29b0 : (((rd_T92 l0_1 x6_3).f0).toList == ((rd_T92 l1_1 x6_3).f0).toList) = true := beq_iff_eq.mpr c29
             have c29b1 : (((rd_T92 l0_1 x6_3).f0).toList != ((rd_T92 l1_1 x6_3).f0).toList) = false := bne_eq_false_iff_eq.mpr c29
             clear c29
             replace H := Option.bind_eq_some_iff.mp H
             obtain ⟨t915, A300, H⟩ := H
             replace H : (if t915 = true then (sequentref04_Extends.l1 k3 (wrap64 (x6_3 + 1)) l0_0 l0_1 l1_0 l1_1) else (some false)) = some r := H
             have A30 := Aside0.mk A300
             clear A300
             by_cases c31 : t915 = true
             ·subst c31
              have H1 : (sequentref04_Extends.l1 k3 (wrap64 (x6_3 + 1)) l0_0 l0_1 l1_0 l1_1) = some r := by rw [if_pos rfl] at H; exact H
              clear H
              have H := H1
              clear H1
              have H' := Aside0.mk H
              clear H
              have hnb32 := NB908_907.out
              have hnc32 := NB907_908.out
              have hcz33_0 : wr.cell? ⟨gb908, 0, none⟩ = some (.slice A1_0 l1_0.length c1_0) := (blk_cell BK908.out 0).trans rfl
              have hcz33_1 : wr.cell? ⟨gb908, 1, none⟩ = some (.slice A1_1 l1_1.length c1_1) := (blk_cell BK908.out 1).trans rfl
              have hfz33_0 := blk_frozen BK908.out 0
              have hfz33_1 := blk_frozen BK908.out 1
              try go_wp2
              have n0_ := Aside0.mk (blk_drew BK907.out)
              have n1_ := Aside0.mk (blk_drew BK908.out)
              have n2_ := Aside0.mk (below_drew1 HB.out)
              clear BK907
              clear BK908
              clear HB
              have BK907 := n0_
              have BK908 := n1_
              have HB := n2_
              clear n0_ n1_ n2_
              have p911 : 0 ≤ (x6_3 : Int) := dq_
              have q911 : x6_3 < (l0_1.length : Int) := dq_
              obtain ⟨ad911, A911_3, c911_3, e911, hx911_0, hx911_1, hx911_2, hx911_3, hl911_3, hi911_3⟩ := at_T92 HR0_1.out x6_3 p911 q911
              have hw911_3 := hx911_3
              have hw911_2 := hx911_2
              have hw911_1 := hx911_1
              have hw911_0 := hx911_0
              cases e911
              replace hx911_0 := pw_cell_below HB.out hx911_0
              replace hx911_1 := pw_cell_below HB.out hx911_1
              replace hx911_2 := pw_cell_below HB.out hx911_2
              replace hx911_3 := pw_cell_below HB.out hx911_3
              have HR911_3 := Aside0.mk hi911_3
              have HC911_3 := Aside0.mk hl911_3
              clear hi911_3 hl911_3
              replace p911 := eq_true p911
              replace q911 := eq_true q911
              have p912 : 0 ≤ (x6_3 : Int) := dq_
              have q912 : x6_3 < (l1_1.length : Int) := dq_
              obtain ⟨ad912, A912_3, c912_3, e912, hx912_0, hx912_1, hx912_2, hx912_3, hl912_3, hi912_3⟩ := at_T92 HR1_1.out x6_3 p912 q912
              have hw912_3 := hx912_3
              have hw912_2 := hx912_2
              have hw912_1 := hx912_1
              have hw912_0 := hx912_0
              cases e912
              replace hx912_0 := pw_cell_below HB.out hx912_0
              replace hx912_1 := pw_cell_below HB.out hx912_1
              replace hx912_2 := pw_cell_below HB.out hx912_2
              replace hx912_3 := pw_cell_below HB.out hx912_3
              have HR912_3 := Aside0.mk hi912_3
              have HC912_3 := Aside0.mk hl912_3
              clear hi912_3 hl912_3
              replace p912 := eq_true p912
              replace q912 := eq_true q912
              have p913 : 0 ≤ (x6_3 : Int) := dq_
              have q913 : x6_3 < (l0_1.length : Int) := dq_
              obtain ⟨ad913, A913_3, c913_3, e913, hx913_0, hx913_1, hx913_2, hx913_3, hl913_3, hi913_3⟩ := at_T92 HR0_1.out x6_3 p913 q913
              have hw913_3 := hx913_3
              have hw913_2 := hx913_2
              have hw913_1 := hx913_1
              have hw913_0 := hx913_0
              obtain rfl : ad911 = ad913 := (by injection e913)
              replace hx913_0 := pw_cell_below HB.out hx913_0
              replace hx913_1 := pw_cell_below HB.out hx913_1
              replace hx913_2 := pw_cell_below HB.out hx913_2
              replace hx913_3 := pw_cell_below HB.out hx913_3
              have HR913_3 := Aside0.mk hi913_3
              have HC913_3 := Aside0.mk hl913_3
              clear hi913_3 hl913_3
              replace p913 := eq_true p913
              replace q913 := eq_true q913
              have ea_ := Option.some.inj (hx911_3.symm.trans hx913_3)
              injection ea_ with ea_ en_ ec_
              subst ea_
              subst ec_
              clear en_
              have p914 : 0 ≤ (x6_3 : Int) := dq_
              have q914 : x6_3 < (l1_1.length : Int) := dq_
              obtain ⟨ad914, A914_3, c914_3, e914, hx914_0, hx914_1, hx914_2, hx914_3, hl914_3, hi914_3⟩ := at_T92 HR1_1.out x6_3 p914 q914
              have hw914_3 := hx914_3
              have hw914_2 := hx914_2
              have hw914_1 := hx914_1
              have hw914_0 := hx914_0
              obtain rfl : ad912 = ad914 := (by injection e914)
              replace hx914_0 := pw_cell_below HB.out hx914_0
              replace hx914_1 := pw_cell_below HB.out hx914_1
              replace hx914_2 := pw_cell_below HB.out hx914_2
              replace hx914_3 := pw_cell_below HB.out hx914_3
              have HR914_3 := Aside0.mk hi914_3
              have HC914_3 := Aside0.mk hl914_3
              clear hi914_3 hl914_3
              replace p914 := eq_true p914
              replace q914 := eq_true q914
              have ea_ := Option.some.inj (hx912_3.symm.trans hx914_3)
              injection ea_ with ea_ en_ ec_
              subst ea_
              subst ec_
              clear en_
              refine start_ (n := 29) (S := fun w' => w'.cell? ⟨gb907, 0, none⟩ = some (.slice A0_0 l0_0.length c0_0) ∧ w'.cell? ⟨gb907, 1, none⟩ = some (.slice (some ad911) l0_1.length c0_1) ∧ w'.cell? ⟨gb908, 0, none⟩ = some (.slice A1_0 l1_0.length c1_0) ∧ w'.cell? ⟨gb908, 1, none⟩ = some (.slice (some ad912) l1_1.length c1_1) ∧ w'.cell? (ad911.add ((x6_3).toNat * 4)) = some (.string ((rd_T92 l0_1 x6_3).f0)) ∧ w'.cell? ⟨(ad911.add ((x6_3).toNat * 4)).block, (ad911.add ((x6_3).toNat * 4)).off + 1, none⟩ = some (.bool ((rd_T92 l0_1 x6_3).f1.f0)) ∧ w'.cell? ⟨(ad911.add ((x6_3).toNat * 4)).block, (ad911.add ((x6_3).toNat * 4)).off + 2, none⟩ = some (.string ((rd_T92 l0_1 x6_3).f1.f1)) ∧ w'.cell? ⟨(ad911.add ((x6_3).toNat * 4)).block, (ad911.add ((x6_3).toNat * 4)).off + 3, none⟩ = some (.slice A911_3 ((rd_T92 l0_1 x6_3).f1.f2).length c911_3) ∧ w'.cell? (ad912.add ((x6_3).toNat * 4)) = some (.string ((rd_T92 l1_1 x6_3).f0)) ∧ w'.cell? ⟨(ad912.add ((x6_3).toNat * 4)).block, (ad912.add ((x6_3).toNat * 4)).off + 1, none⟩ = some (.bool ((rd_T92 l1_1 x6_3).f1.f0)) ∧ w'.cell? ⟨(ad912.add ((x6_3).toNat * 4)).block, (ad912.add ((x6_3).toNat * 4)).off + 2, none⟩ = some (.string ((rd_T92 l1_1 x6_3).f1.f1)) ∧ w'.cell? ⟨(ad912.add ((x6_3).toNat * 4)).block, (ad912.add ((x6_3).toNat * 4)).off + 3, none⟩ = some (.slice A912_3 ((rd_T92 l1_1 x6_3).f1.f2).length c912_3) ∧ w'.cell? (ad911.add ((x6_3).toNat * 4)) = some (.string ((rd_T92 l0_1 x6_3).f0)) ∧ w'.cell? ⟨(ad911.add ((x6_3).toNat * 4)).block, (ad911.add ((x6_3).toNat * 4)).off + 1, none⟩ = some (.bool ((rd_T92 l0_1 x6_3).f1.f0)) ∧ w'.cell? ⟨(ad911.add ((x6_3).toNat * 4)).block, (ad911.add ((x6_3).toNat * 4)).off + 2, none⟩ = some (.string ((rd_T92 l0_1 x6_3).f1.f1)) ∧ w'.cell? ⟨(ad911.add ((x6_3).toNat * 4)).block, (ad911.add ((x6_3).toNat * 4)).off + 3, none⟩ = some (.slice A911_3 ((rd_T92 l0_1 x6_3).f1.f2).length c911_3) ∧ w'.cell? (ad912.add ((x6_3).toNat * 4)) = some (.string ((rd_T92 l1_1 x6_3).f0)) ∧ w'.cell? ⟨(ad912.add ((x6_3).toNat * 4)).block, (ad912.add ((x6_3).toNat * 4)).off + 1, none⟩ = some (.bool ((rd_T92 l1_1 x6_3).f1.f0)) ∧ w'.cell? ⟨(ad912.add ((x6_3).toNat * 4)).block, (ad912.add ((x6_3).toNat * 4)).off + 2, none⟩ = some (.string ((rd_T92 l1_1 x6_3).f1.f1)) ∧ w'.cell? ⟨(ad912.add ((x6_3).toNat * 4)).block, (ad912.add ((x6_3).toNat * 4)).off + 3, none⟩ = some (.slice A912_3 ((rd_T92 l1_1 x6_3).f1.f2).length c912_3)) (ds := []) #[false, false, false, false, false, false, false, false, false, false, false, false, false, false, false, false, false, false, false, false, false, false, false, false, false, false, false, false, false] (by kernel_rfl) rfl rfl ⟨(blk_cell BK907.out 0).trans rfl, (blk_cell BK907.out 1).trans rfl, (blk_cell BK908.out 0).trans rfl, (blk_cell BK908.out 1).trans rfl, (pw_cell_below HB.out hw911_0), (pw_cell_below HB.out hw911_1), (pw_cell_below HB.out hw911_2), (pw_cell_below HB.out hw911_3), (pw_cell_below HB.out hw912_0), (pw_cell_below HB.out hw912_1), (pw_cell_below HB.out hw912_2), (pw_cell_below HB.out hw912_3), (pw_cell_below HB.out hw913_0), (pw_cell_below HB.out hw913_1), (pw_cell_below HB.out hw913_2), (pw_cell_below HB.out hw913_3), (pw_cell_below HB.out hw914_0), (pw_cell_below HB.out hw914_1), (pw_cell_below HB.out hw914_2), (pw_cell_below HB.out hw914_3)⟩ (fun hHeld => ?_); refine with_tabW sequentref04_Extends.tab11 sequentref04_Extends.bits11 (fun HT_ HW_ => ?_)
              generalize wr.drew = w34 at BK907 BK908 HB HR911_3 HR912_3 HR913_3 HR914_3 hx911_0 hx911_1 hx911_2 hx911_3 hx912_0 hx912_1 hx912_2 hx912_3 hx913_0 hx913_1 hx913_2 hx913_3 hx914_0 hx914_1 hx914_2 hx914_3 hHeld ⊢
              refine pure_ (i := 0) (N := some 48) (v := ?_) (a' := ?_) #[true, false, false, false, false, false, false, false, false, false, false, false, false, false, false, false, false, false, false, false, false, false, false, false, false, false, false, false, false] rfl rfl (any_of HT_.out (by kernel_rfl)) (fun _ _ _ h => h) (Or.inl ⟨by rfl, ?_⟩) ?_ ?_
              rotate_left
              ·intro w'
               go_simp
               with_reducible rfl
              rotate_left
              ·simp only [Act.put, List.setIfInBounds_toArray, List.set_cons_zero, List.set_cons_succ, i64_w, i32_w]
               rfl
              refine pure_ (i := 2) (N := some 50) (v := ?_) (a' := ?_) #[true, false, true, false, false, false, false, false, false, false, false, false, false, false, false, false, false, false, false, false, false, false, false, false, false, false, false, false, false] rfl rfl (any_of HT_.out (by kernel_rfl)) (fun _ _ _ h => h) (Or.inl ⟨by rfl, ?_⟩) ?_ ?_
              rotate_left
              ·intro w'
               go_simp
               with_reducible rfl
              rotate_left
              ·simp only [Act.put, List.setIfInBounds_toArray, List.set_cons_zero, List.set_cons_succ, i64_w, i32_w]
               rfl
              refine pure_ (i := 6) (N := some 54) (v := ?_) (a' := ?_) #[true, false, true, false, false, false, true, false, false, false, false, false, false, false, false, false, false, false, false, false, false, false, false, false, false, false, false, false, false] rfl rfl (any_of HT_.out (by kernel_rfl)) (fun _ _ _ h => h) (Or.inl ⟨by rfl, ?_⟩) ?_ ?_
              rotate_left
              ·intro w'
               go_simp
               with_reducible rfl
              rotate_left
              ·simp only [Act.put, List.setIfInBounds_toArray, List.set_cons_zero, List.set_cons_succ, i64_w, i32_w]
               rfl
              refine pure_ (i := 8) (N := some 56) (v := ?_) (a' := ?_) #[true, false, true, false, false, false, true, false, true, false, false, false, false, false, false, false, false, false, false, false, false, false, false, false, false, false, false, false, false] rfl rfl (any_of HT_.out (by kernel_rfl)) (fun _ _ _ h => h) (Or.inl ⟨by rfl, ?_⟩) ?_ ?_
              rotate_left
              ·intro w'
               go_simp
               with_reducible rfl
              rotate_left
              ·simp only [Act.put, List.setIfInBounds_toArray, List.set_cons_zero, List.set_cons_succ, i64_w, i32_w]
               rfl
              refine take_ (i := 1) (N := some 49) (v := ?_) (a' := ?_) #[true, true, true, false, false, false, true, false, true, false, false, false, false, false, false, false, false, false, false, false, false, false, false, false, false, false, false, false, false] rfl rfl (take_ofW HT_.out HW_.out (by kernel_rfl)) (fun _ _ _ h => h) (Or.inl ⟨by rfl, ?_⟩) hHeld ?_ ?_
              rotate_left
              ·rintro w' ⟨s0, s1, s2, s3, s4, s5, s6, s7, s8, s9, s10, s11, s12, s13, s14, s15, s16, s17, s18, s19⟩
               go_simp
               with_reducible rfl
              rotate_left
              ·simp only [Act.put, List.setIfInBounds_toArray, List.set_cons_zero, List.set_cons_succ, i64_w, i32_w]
               rfl
              refine pure_ (i := 3) (N := some 51) (v := ?_) (a' := ?_) #[true, true, true, true, false, false, true, false, true, false, false, false, false, false, false, false, false, false, false, false, false, false, false, false, false, false, false, false, false] rfl rfl (any_of HT_.out (by kernel_rfl)) (fun _ _ _ h => h) (Or.inl ⟨by rfl, ?_⟩) ?_ ?_
              rotate_left
              ·intro w'
               go_simp
               with_reducible rfl
              rotate_left
              ·simp only [Act.put, List.setIfInBounds_toArray, List.set_cons_zero, List.set_cons_succ, i64_w, i32_w]
               rfl
              refine pure_ (i := 4) (N := some 52) (v := ?_) (a' := ?_) #[true, true, true, true, true, false, true, false, true, false, false, false, false, false, false, false, false, false, false, false, false, false, false, false, false, false, false, false, false] rfl rfl (any_of HT_.out (by kernel_rfl)) (fun _ _ _ h => h) (Or.inl ⟨by rfl, ?_⟩) ?_ ?_
              rotate_left
              ·intro w'
               go_simp
               with_reducible rfl
              rotate_left
              ·simp only [Act.put, List.setIfInBounds_toArray, List.set_cons_zero, List.set_cons_succ, i64_w, i32_w]
               rfl
              refine take_ (i := 5) (N := some 53) (v := ?_) (a' := ?_) #[true, true, true, true, true, true, true, false, true, false, false, false, false, false, false, false, false, false, false, false, false, false, false, false, false, false, false, false, false] rfl rfl (take_ofW HT_.out HW_.out (by kernel_rfl)) (fun _ _ _ h => h) (Or.inl ⟨by rfl, ?_⟩) hHeld ?_ ?_
              rotate_left
              ·rintro w' ⟨s0, s1, s2, s3, s4, s5, s6, s7, s8, s9, s10, s11, s12, s13, s14, s15, s16, s17, s18, s19⟩
               go_simp
               with_reducible rfl
              rotate_left
              ·simp only [Act.put, List.setIfInBounds_toArray, List.set_cons_zero, List.set_cons_succ, i64_w, i32_w]
               rfl
              refine take_ (i := 7) (N := some 55) (v := ?_) (a' := ?_) #[true, true, true, true, true, true, true, true, true, false, false, false, false, false, false, false, false, false, false, false, false, false, false, false, false, false, false, false, false] rfl rfl (take_ofW HT_.out HW_.out (by kernel_rfl)) (fun _ _ _ h => h) (Or.inl ⟨by rfl, ?_⟩) hHeld ?_ ?_
              rotate_left
              ·rintro w' ⟨s0, s1, s2, s3, s4, s5, s6, s7, s8, s9, s10, s11, s12, s13, s14, s15, s16, s17, s18, s19⟩
               go_simp
               with_reducible rfl
              rotate_left
              ·simp only [Act.put, List.setIfInBounds_toArray, List.set_cons_zero, List.set_cons_succ, i64_w, i32_w]
               rfl
              refine pure_ (i := 9) (N := some 57) (v := ?_) (a' := ?_) #[true, true, true, true, true, true, true, true, true, true, false, false, false, false, false, false, false, false, false, false, false, false, false, false, false, false, false, false, false] rfl rfl (any_of HT_.out (by kernel_rfl)) (fun _ _ _ h => h) (Or.inl ⟨by rfl, ?_⟩) ?_ ?_
              rotate_left
              ·intro w'
               go_simp
               with_reducible rfl
              rotate_left
              ·simp only [Act.put, List.setIfInBounds_toArray, List.set_cons_zero, List.set_cons_succ, i64_w, i32_w]
               rfl
              refine pure_ (i := 10) (N := some 58) (v := ?_) (a' := ?_) #[true, true, true, true, true, true, true, true, true, true, true, false, false, false, false, false, false, false, false, false, false, false, false, false, false, false, false, false, false] rfl rfl (any_of HT_.out (by kernel_rfl)) (fun _ _ _ h => h) (Or.inl ⟨by rfl, ?_⟩) ?_ ?_
              rotate_left
              ·intro w'
               go_simp
               with_reducible rfl
              rotate_left
              ·simp only [Act.put, List.setIfInBounds_toArray, List.set_cons_zero, List.set_cons_succ, i64_w, i32_w]
               rfl
              refine take_ (i := 11) (N := some 59) (v := ?_) (a' := ?_) #[true, true, true, true, true, true, true, true, true, true, true, true, false, false, false, false, false, false, false, false, false, false, false, false, false, false, false, false, false] rfl rfl (take_ofW HT_.out HW_.out (by kernel_rfl)) (fun _ _ _ h => h) (Or.inl ⟨by rfl, ?_⟩) hHeld ?_ ?_
              rotate_left
              ·rintro w' ⟨s0, s1, s2, s3, s4, s5, s6, s7, s8, s9, s10, s11, s12, s13, s14, s15, s16, s17, s18, s19⟩
               go_simp
               with_reducible rfl
              rotate_left
              ·simp only [Act.put, List.setIfInBounds_toArray, List.set_cons_zero, List.set_cons_succ, i64_w, i32_w]
               rfl
              refine pure_ (i := 12) (N := some 60) (v := ?_) (a' := ?_) #[true, true, true, true, true, true, true, true, true, true, true, true, true, false, false, false, false, false, false, false, false, false, false, false, false, false, false, false, false] rfl rfl (any_of HT_.out (by kernel_rfl)) (fun _ _ _ h => h) (Or.inl ⟨by rfl, ?_⟩) ?_ ?_
              rotate_left
              ·intro w'
               go_simp
               with_reducible rfl
              rotate_left
              ·simp only [Act.put, List.setIfInBounds_toArray, List.set_cons_zero, List.set_cons_succ, i64_w, i32_w]
               rfl
              refine pure_ (i := 13) (N := some 61) (v := ?_) (a' := ?_) #[true, true, true, true, true, true, true, true, true, true, true, true, true, true, false, false, false, false, false, false, false, false, false, false, false, false, false, false, false] rfl rfl (any_of HT_.out (by kernel_rfl)) (fun _ _ _ h => h) (Or.inl ⟨by rfl, ?_⟩) ?_ ?_
              rotate_left
              ·intro w'
               go_simp
               with_reducible rfl
              rotate_left
              ·simp only [Act.put, List.setIfInBounds_toArray, List.set_cons_zero, List.set_cons_succ, i64_w, i32_w]
               rfl
              refine pure_ (i := 14) (N := some 62) (v := ?_) (a' := ?_) #[true, true, true, true, true, true, true, true, true, true, true, true, true, true, true, false, false, false, false, false, false, false, false, false, false, false, false, false, false] rfl rfl (any_of HT_.out (by kernel_rfl)) (fun _ _ _ h => h) (Or.inl ⟨by rfl, ?_⟩) ?_ ?_
              rotate_left
              ·intro w'
               go_simp
               with_reducible rfl
              rotate_left
              ·simp only [Act.put, List.setIfInBounds_toArray, List.set_cons_zero, List.set_cons_succ, i64_w, i32_w]
               rfl
              refine pure_ (i := 16) (N := some 64) (v := ?_) (a' := ?_) #[true, true, true, true, true, true, true, true, true, true, true, true, true, true, true, false, true, false, false, false, false, false, false, false, false, false, false, false, false] rfl rfl (any_of HT_.out (by kernel_rfl)) (fun _ _ _ h => h) (Or.inl ⟨by rfl, ?_⟩) ?_ ?_
              rotate_left
              ·intro w'
               go_simp
               with_reducible rfl
              rotate_left
              ·simp only [Act.put, List.setIfInBounds_toArray, List.set_cons_zero, List.set_cons_succ, i64_w, i32_w]
               rfl
              refine pure_ (i := 20) (N := some 68) (v := ?_) (a' := ?_) #[true, true, true, true, true, true, true, true, true, true, true, true, true, true, true, false, true, false, false, false, true, false, false, false, false, false, false, false, false] rfl rfl (any_of HT_.out (by kernel_rfl)) (fun _ _ _ h => h) (Or.inl ⟨by rfl, ?_⟩) ?_ ?_
              rotate_left
              ·intro w'
               go_simp
               with_reducible rfl
              rotate_left
              ·simp only [Act.put, List.setIfInBounds_toArray, List.set_cons_zero, List.set_cons_succ, i64_w, i32_w]
               rfl
              refine pure_ (i := 22) (N := some 70) (v := ?_) (a' := ?_) #[true, true, true, true, true, true, true, true, true, true, true, true, true, true, true, false, true, false, false, false, true, false, true, false, false, false, false, false, false] rfl rfl (any_of HT_.out (by kernel_rfl)) (fun _ _ _ h => h) (Or.inl ⟨by rfl, ?_⟩) ?_ ?_
              rotate_left
              ·intro w'
               go_simp
               with_reducible rfl
              rotate_left
              ·simp only [Act.put, List.setIfInBounds_toArray, List.set_cons_zero, List.set_cons_succ, i64_w, i32_w]
               rfl
              refine take_ (i := 15) (N := some 63) (v := ?_) (a' := ?_) #[true, true, true, true, true, true, true, true, true, true, true, true, true, true, true, true, true, false, false, false, true, false, true, false, false, false, false, false, false] rfl rfl (take_ofW HT_.out HW_.out (by kernel_rfl)) (fun _ _ _ h => h) (Or.inl ⟨by rfl, ?_⟩) hHeld ?_ ?_
              rotate_left
              ·rintro w' ⟨s0, s1, s2, s3, s4, s5, s6, s7, s8, s9, s10, s11, s12, s13, s14, s15, s16, s17, s18, s19⟩
               go_simp
               with_reducible rfl
              rotate_left
              ·simp only [Act.put, List.setIfInBounds_toArray, List.set_cons_zero, List.set_cons_succ, i64_w, i32_w]
               rfl
              refine pure_ (i := 17) (N := some 65) (v := ?_) (a' := ?_) #[true, true, true, true, true, true, true, true, true, true, true, true, true, true, true, true, true, true, false, false, true, false, true, false, false, false, false, false, false] rfl rfl (any_of HT_.out (by kernel_rfl)) (fun _ _ _ h => h) (Or.inl ⟨by rfl, ?_⟩) ?_ ?_
              rotate_left
              ·intro w'
               go_simp
               with_reducible rfl
              rotate_left
              ·simp only [Act.put, List.setIfInBounds_toArray, List.set_cons_zero, List.set_cons_succ, i64_w, i32_w]
               rfl
              refine pure_ (i := 18) (N := some 66) (v := ?_) (a' := ?_) #[true, true, true, true, true, true, true, true, true, true, true, true, true, true, true, true, true, true, true, false, true, false, true, false, false, false, false, false, false] rfl rfl (any_of HT_.out (by kernel_rfl)) (fun _ _ _ h => h) (Or.inl ⟨by rfl, ?_⟩) ?_ ?_
              rotate_left
              ·intro w'
               go_simp
               with_reducible rfl
              rotate_left
              ·simp only [Act.put, List.setIfInBounds_toArray, List.set_cons_zero, List.set_cons_succ, i64_w, i32_w]
               rfl
              refine take_ (i := 19) (N := some 67) (v := ?_) (a' := ?_) #[true, true, true, true, true, true, true, true, true, true, true, true, true, true, true, true, true, true, true, true, true, false, true, false, false, false, false, false, false] rfl rfl (take_ofW HT_.out HW_.out (by kernel_rfl)) (fun _ _ _ h => h) (Or.inl ⟨by rfl, ?_⟩) hHeld ?_ ?_
              rotate_left
              ·rintro w' ⟨s0, s1, s2, s3, s4, s5, s6, s7, s8, s9, s10, s11, s12, s13, s14, s15, s16, s17, s18, s19⟩
               go_simp
               with_reducible rfl
              rotate_left
              ·simp only [Act.put, List.setIfInBounds_toArray, List.set_cons_zero, List.set_cons_succ, i64_w, i32_w]
               rfl
              refine take_ (i := 21) (N := some 69) (v := ?_) (a' := ?_) #[true, true, true, true, true, true, true, true, true, true, true, true, true, true, true, true, true, true, true, true, true, true, true, false, false, false, false, false, false] rfl rfl (take_ofW HT_.out HW_.out (by kernel_rfl)) (fun _ _ _ h => h) (Or.inl ⟨by rfl, ?_⟩) hHeld ?_ ?_
              rotate_left
              ·rintro w' ⟨s0, s1, s2, s3, s4, s5, s6, s7, s8, s9, s10, s11, s12, s13, s14, s15, s16, s17, s18, s19⟩
               go_simp
               with_reducible rfl
              rotate_left
              ·simp only [Act.put, List.setIfInBounds_toArray, List.set_cons_zero, List.set_cons_succ, i64_w, i32_w]
               rfl
              refine pure_ (i := 23) (N := some 71) (v := ?_) (a' := ?_) #[true, true, true, true, true, true, true, true, true, true, true, true, true, true, true, true, true, true, true, true, true, true, true, true, false, false, false, false, false] rfl rfl (any_of HT_.out (by kernel_rfl)) (fun _ _ _ h => h) (Or.inl ⟨by rfl, ?_⟩) ?_ ?_
              rotate_left
              ·intro w'
               go_simp
               with_reducible rfl
              rotate_left
              ·simp only [Act.put, List.setIfInBounds_toArray, List.set_cons_zero, List.set_cons_succ, i64_w, i32_w]
               rfl
              refine pure_ (i := 24) (N := some 72) (v := ?_) (a' := ?_) #[true, true, true, true, true, true, true, true, true, true, true, true, true, true, true, true, true, true, true, true, true, true, true, true, true, false, false, false, false] rfl rfl (any_of HT_.out (by kernel_rfl)) (fun _ _ _ h => h) (Or.inl ⟨by rfl, ?_⟩) ?_ ?_
              rotate_left
              ·intro w'
               go_simp
               with_reducible rfl
              rotate_left
              ·simp only [Act.put, List.setIfInBounds_toArray, List.set_cons_zero, List.set_cons_succ, i64_w, i32_w]
               rfl
              refine take_ (i := 25) (N := some 73) (v := ?_) (a' := ?_) #[true, true, true, true, true, true, true, true, true, true, true, true, true, true, true, true, true, true, true, true, true, true, true, true, true, true, false, false, false] rfl rfl (take_ofW HT_.out HW_.out (by kernel_rfl)) (fun _ _ _ h => h) (Or.inl ⟨by rfl, ?_⟩) hHeld ?_ ?_
              rotate_left
              ·rintro w' ⟨s0, s1, s2, s3, s4, s5, s6, s7, s8, s9, s10, s11, s12, s13, s14, s15, s16, s17, s18, s19⟩
               go_simp
               with_reducible rfl
              rotate_left
              ·simp only [Act.put, List.setIfInBounds_toArray, List.set_cons_zero, List.set_cons_succ, i64_w, i32_w]
               rfl
              refine one_ (i := 26) (N := some 74) #[true, true, true, true, true, true, true, true, true, true, true, true, true, true, true, true, true, true, true, true, true, true, true, true, true, true, true, false, false] rfl rfl (one_of HT_.out (by kernel_rfl)) (by decide) (fun K hK => ?_)
              refine goes_ Try.func18 (by kernel_rfl) rfl #[.agg #[.bool ((rd_T92 l0_1 x6_3).f1.f0), .string ((rd_T92 l0_1 x6_3).f1.f1), .slice A911_3 ((rd_T92 l0_1 x6_3).f1.f2).length c911_3], .agg #[.bool ((rd_T92 l1_1 x6_3).f1.f0), .string ((rd_T92 l1_1 x6_3).f1.f1), .slice A912_3 ((rd_T92 l1_1 x6_3).f1.f2).length c912_3]] (by rfl) rfl rfl (by (try simp only [List.map_toArray, List.map_cons, List.map_nil]); first | done | rfl | (simp only [List.length_drop, List.length_take]; rfl)) ?_
              with_reducible refine (sequentref01_Same.calls k3 ((rd_T92 l0_1 x6_3).f1.f0) ((rd_T92 l0_1 x6_3).f1.f1) _ _ ((rd_T92 l0_1 x6_3).f1.f2) ((rd_T92 l1_1 x6_3).f1.f0) ((rd_T92 l1_1 x6_3).f1.f1) _ _ ((rd_T92 l1_1 x6_3).f1.f2) true _ ?side1 ?side2 ?side3 ?side4 A30.out).mono ?_
              (case side1 => repeat (first | exact (Kd.C_below HR913_3.out HB.out) | (with_reducible refine Kd.C_alloc ?_ _) | (with_reducible refine Kd.C_drewN ?_ _) | (with_reducible refine Kd.C_drew ?_)))
              (case side2 => exact HC913_3.out)
              (case side3 => repeat (first | exact (Kd.C_below HR914_3.out HB.out) | (with_reducible refine Kd.C_alloc ?_ _) | (with_reducible refine Kd.C_drewN ?_ _) | (with_reducible refine Kd.C_drew ?_)))
              (case side4 => exact HC914_3.out)
              rintro e w35 ⟨rfl, hb⟩
              refine ⟨_, rfl, ?_⟩
              have n0_ := Aside0.mk (blk_below (g := gb907) (o := .cells #[.slice A0_0 l0_0.length c0_0, .slice (some ad911) l0_1.length c0_1] 81 (0, 0)) (bk_ BK907) hb)
              have n1_ := Aside0.mk (blk_below (g := gb908) (o := .cells #[.slice A1_0 l1_0.length c1_0, .slice (some ad912) l1_1.length c1_1] 81 (0, 0)) (bk_ BK908) hb)
              have n2_ := Aside0.mk (below_step bel_ hb)
              clear BK907
              clear BK908
              clear HB
              have BK907 := n0_
              have BK908 := n1_
              have HB := n2_
              clear n0_ n1_ n2_
              (try clear hb)
              (try clear hb2)
              (try clear hk)
              (try clear hi)
              refine hK.out _ _ ⟨(blk_cell BK907.out 0).trans rfl, (blk_cell BK907.out 1).trans rfl, (blk_cell BK908.out 0).trans rfl, (blk_cell BK908.out 1).trans rfl, (pw_cell_below HB.out hw911_0), (pw_cell_below HB.out hw911_1), (pw_cell_below HB.out hw911_2), (pw_cell_below HB.out hw911_3), (pw_cell_below HB.out hw912_0), (pw_cell_below HB.out hw912_1), (pw_cell_below HB.out hw912_2), (pw_cell_below HB.out hw912_3), (pw_cell_below HB.out hw913_0), (pw_cell_below HB.out hw913_1), (pw_cell_below HB.out hw913_2), (pw_cell_below HB.out hw913_3), (pw_cell_below HB.out hw914_0), (pw_cell_below HB.out hw914_1), (pw_cell_below HB.out hw914_2), (pw_cell_below HB.out hw914_3)⟩ (fun hHeld => ?_)
              clear hK K
              refine norm_ (a' := ?_) ?_ ?_
              rotate_left
              ·show Act.put _ (some 74) _ = _
               simp only [Act.put, List.setIfInBounds_toArray, List.set_cons_zero, List.set_cons_succ, i64_w, i32_w]
               rfl
              refine pure_ (i := 27) (N := some 75) (v := ?_) (a' := ?_) #[true, true, true, true, true, true, true, true, true, true, true, true, true, true, true, true, true, true, true, true, true, true, true, true, true, true, true, true, false] rfl rfl (any_of HT_.out (by kernel_rfl)) (fun _ _ _ h => h) (Or.inl ⟨by rfl, ?_⟩) ?_ ?_
              rotate_left
              ·intro w'
               go_simp
               with_reducible rfl
              rotate_left
              ·simp only [Act.put, List.setIfInBounds_toArray, List.set_cons_zero, List.set_cons_succ, i64_w, i32_w]
               rfl
              refine pure_ (i := 28) (N := some 76) (v := ?_) (a' := ?_) #[true, true, true, true, true, true, true, true, true, true, true, true, true, true, true, true, true, true, true, true, true, true, true, true, true, true, true, true, true] rfl rfl (any_of HT_.out (by kernel_rfl)) (fun _ _ _ h => h) (Or.inl ⟨by rfl, ?_⟩) ?_ ?_
              rotate_left
              ·intro w'
               go_simp
               with_reducible rfl
              rotate_left
              ·simp only [Act.put, List.setIfInBounds_toArray, List.set_cons_zero, List.set_cons_succ, i64_w, i32_w]
               rfl
              refine done_ (done_of HT_.out (by kernel_rfl)) ?_
              try go_wp2
              go_roundg k3
              case measure => have := HJ2.out; have := HK2.out; have := HK3.out; omega
              case rel => exact ⟨(wrap64 (x6_3 + 1)), (by first | rfl | (simp; done) | (simp [*]; done)), H', ⟨by have := HJ2.out; have := HK2.out; have := HK3.out; omega⟩, ⟨bk_ BK907⟩, ⟨bk_ BK908⟩, ⟨bel_⟩⟩
             ·replace c31 := Bool.eq_false_iff.mpr c31
              subst c31
              have H1 : (some false) = some r := by rw [if_neg (show ¬ (false = true) by decide)] at H; exact H
              clear H
              have H := H1
              clear H1
              obtain rfl := Option.some.inj H
              have hnb36 := NB908_907.out
              have hnc36 := NB907_908.out
              have hcz37_0 : wr.cell? ⟨gb908, 0, none⟩ = some (.slice A1_0 l1_0.length c1_0) := (blk_cell BK908.out 0).trans rfl
              have hcz37_1 : wr.cell? ⟨gb908, 1, none⟩ = some (.slice A1_1 l1_1.length c1_1) := (blk_cell BK908.out 1).trans rfl
              have hfz37_0 := blk_frozen BK908.out 0
              have hfz37_1 := blk_frozen BK908.out 1
              try go_wp2
              have n0_ := Aside0.mk (blk_drew BK907.out)
              have n1_ := Aside0.mk (blk_drew BK908.out)
              have n2_ := Aside0.mk (below_drew1 HB.out)
              clear BK907
              clear BK908
              clear HB
              have BK907 := n0_
              have BK908 := n1_
              have HB := n2_
              clear n0_ n1_ n2_
              have p911 : 0 ≤ (x6_3 : Int) := dq_
              have q911 : x6_3 < (l0_1.length : Int) := dq_
              obtain ⟨ad911, A911_3, c911_3, e911, hx911_0, hx911_1, hx911_2, hx911_3, hl911_3, hi911_3⟩ := at_T92 HR0_1.out x6_3 p911 q911
              have hw911_3 := hx911_3
              have hw911_2 := hx911_2
              have hw911_1 := hx911_1
              have hw911_0 := hx911_0
              cases e911
              replace hx911_0 := pw_cell_below HB.out hx911_0
              replace hx911_1 := pw_cell_below HB.out hx911_1
              replace hx911_2 := pw_cell_below HB.out hx911_2
              replace hx911_3 := pw_cell_below HB.out hx911_3
              have HR911_3 := Aside0.mk hi911_3
              have HC911_3 := Aside0.mk hl911_3
              clear hi911_3 hl911_3
              replace p911 := eq_true p911
              replace q911 := eq_true q911
              have p912 : 0 ≤ (x6_3 : Int) := dq_
              have q912 : x6_3 < (l1_1.length : Int) := dq_
              obtain ⟨ad912, A912_3, c912_3, e912, hx912_0, hx912_1, hx912_2, hx912_3, hl912_3, hi912_3⟩ := at_T92 HR1_1.out x6_3 p912 q912
              have hw912_3 := hx912_3
              have hw912_2 := hx912_2
              have hw912_1 := hx912_1
              have hw912_0 := hx912_0
              cases e912
              replace hx912_0 := pw_cell_below HB.out hx912_0
              replace hx912_1 := pw_cell_below HB.out hx912_1
              replace hx912_2 := pw_cell_below HB.out hx912_2
              replace hx912_3 := pw_cell_below HB.out hx912_3
              have HR912_3 := Aside0.mk hi912_3
              have HC912_3 := Aside0.mk hl912_3
              clear hi912_3 hl912_3
              replace p912 := eq_true p912
              replace q912 := eq_true q912
              have p913 : 0 ≤ (x6_3 : Int) := dq_
              have q913 : x6_3 < (l0_1.length : Int) := dq_
              obtain ⟨ad913, A913_3, c913_3, e913, hx913_0, hx913_1, hx913_2, hx913_3, hl913_3, hi913_3⟩ := at_T92 HR0_1.out x6_3 p913 q913
              have hw913_3 := hx913_3
              have hw913_2 := hx913_2
              have hw913_1 := hx913_1
              have hw913_0 := hx913_0
              obtain rfl : ad911 = ad913 := (by injection e913)
              replace hx913_0 := pw_cell_below HB.out hx913_0
              replace hx913_1 := pw_cell_below HB.out hx913_1
              replace hx913_2 := pw_cell_below HB.out hx913_2
              replace hx913_3 := pw_cell_below HB.out hx913_3
              have HR913_3 := Aside0.mk hi913_3
              have HC913_3 := Aside0.mk hl913_3
              clear hi913_3 hl913_3
              replace p913 := eq_true p913
              replace q913 := eq_true q913
              have ea_ := Option.some.inj (hx911_3.symm.trans hx913_3)
              injection ea_ with ea_ en_ ec_
              subst ea_
              subst ec_
              clear en_
              have p914 : 0 ≤ (x6_3 : Int) := dq_
              have q914 : x6_3 < (l1_1.length : Int) := dq_
              obtain ⟨ad914, A914_3, c914_3, e914, hx914_0, hx914_1, hx914_2, hx914_3, hl914_3, hi914_3⟩ := at_T92 HR1_1.out x6_3 p914 q914
              have hw914_3 := hx914_3
              have hw914_2 := hx914_2
              have hw914_1 := hx914_1
              have hw914_0 := hx914_0
              obtain rfl : ad912 = ad914 := (by injection e914)
              replace hx914_0 := pw_cell_below HB.out hx914_0
              replace hx914_1 := pw_cell_below HB.out hx914_1
              replace hx914_2 := pw_cell_below HB.out hx914_2
              replace hx914_3 := pw_cell_below HB.out hx914_3
              have HR914_3 := Aside0.mk hi914_3
              have HC914_3 := Aside0.mk hl914_3
              clear hi914_3 hl914_3
              replace p914 := eq_true p914
              replace q914 := eq_true q914
              have ea_ := Option.some.inj (hx912_3.symm.trans hx914_3)
              injection ea_ with ea_ en_ ec_
              subst ea_
              subst ec_
              clear en_
              refine start_ (n := 29) (S := fun w' => w'.cell? ⟨gb907, 0, none⟩ = some (.slice A0_0 l0_0.length c0_0) ∧ w'.cell? ⟨gb907, 1, none⟩ = some (.slice (some ad911) l0_1.length c0_1) ∧ w'.cell? ⟨gb908, 0, none⟩ = some (.slice A1_0 l1_0.length c1_0) ∧ w'.cell? ⟨gb908, 1, none⟩ = some (.slice (some ad912) l1_1.length c1_1) ∧ w'.cell? (ad911.add ((x6_3).toNat * 4)) = some (.string ((rd_T92 l0_1 x6_3).f0)) ∧ w'.cell? ⟨(ad911.add ((x6_3).toNat * 4)).block, (ad911.add ((x6_3).toNat * 4)).off + 1, none⟩ = some (.bool ((rd_T92 l0_1 x6_3).f1.f0)) ∧ w'.cell? ⟨(ad911.add ((x6_3).toNat * 4)).block, (ad911.add ((x6_3).toNat * 4)).off + 2, none⟩ = some (.string ((rd_T92 l0_1 x6_3).f1.f1)) ∧ w'.cell? ⟨(ad911.add ((x6_3).toNat * 4)).block, (ad911.add ((x6_3).toNat * 4)).off + 3, none⟩ = some (.slice A911_3 ((rd_T92 l0_1 x6_3).f1.f2).length c911_3) ∧ w'.cell? (ad912.add ((x6_3).toNat * 4)) = some (.string ((rd_T92 l1_1 x6_3).f0)) ∧ w'.cell? ⟨(ad912.add ((x6_3).toNat * 4)).block, (ad912.add ((x6_3).toNat * 4)).off + 1, none⟩ = some (.bool ((rd_T92 l1_1 x6_3).f1.f0)) ∧ w'.cell? ⟨(ad912.add ((x6_3).toNat * 4)).block, (ad912.add ((x6_3).toNat * 4)).off + 2, none⟩ = some (.string ((rd_T92 l1_1 x6_3).f1.f1)) ∧ w'.cell? ⟨(ad912.add ((x6_3).toNat * 4)).block, (ad912.add ((x6_3).toNat * 4)).off + 3, none⟩ = some (.slice A912_3 ((rd_T92 l1_1 x6_3).f1.f2).length c912_3) ∧ w'.cell? (ad911.add ((x6_3).toNat * 4)) = some (.string ((rd_T92 l0_1 x6_3).f0)) ∧ w'.cell? ⟨(ad911.add ((x6_3).toNat * 4)).block, (ad911.add ((x6_3).toNat * 4)).off + 1, none⟩ = some (.bool ((rd_T92 l0_1 x6_3).f1.f0)) ∧ w'.cell? ⟨(ad911.add ((x6_3).toNat * 4)).block, (ad911.add ((x6_3).toNat * 4)).off + 2, none⟩ = some (.string ((rd_T92 l0_1 x6_3).f1.f1)) ∧ w'.cell? ⟨(ad911.add ((x6_3).toNat * 4)).block, (ad911.add ((x6_3).toNat * 4)).off + 3, none⟩ = some (.slice A911_3 ((rd_T92 l0_1 x6_3).f1.f2).length c911_3) ∧ w'.cell? (ad912.add ((x6_3).toNat * 4)) = some (.string ((rd_T92 l1_1 x6_3).f0)) ∧ w'.cell? ⟨(ad912.add ((x6_3).toNat * 4)).block, (ad912.add ((x6_3).toNat * 4)).off + 1, none⟩ = some (.bool ((rd_T92 l1_1 x6_3).f1.f0)) ∧ w'.cell? ⟨(ad912.add ((x6_3).toNat * 4)).block, (ad912.add ((x6_3).toNat * 4)).off + 2, none⟩ = some (.string ((rd_T92 l1_1 x6_3).f1.f1)) ∧ w'.cell? ⟨(ad912.add ((x6_3).toNat * 4)).block, (ad912.add ((x6_3).toNat * 4)).off + 3, none⟩ = some (.slice A912_3 ((rd_T92 l1_1 x6_3).f1.f2).length c912_3)) (ds := []) #[false, false, false, false, false, false, false, false, false, false, false, false, false, false, false, false, false, false, false, false, false, false, false, false, false, false, false, false, false] (by kernel_rfl) rfl rfl ⟨(blk_cell BK907.out 0).trans rfl, (blk_cell BK907.out 1).trans rfl, (blk_cell BK908.out 0).trans rfl, (blk_cell BK908.out 1).trans rfl, (pw_cell_below HB.out hw911_0), (pw_cell_below HB.out hw911_1), (pw_cell_below HB.out hw911_2), (pw_cell_below HB.out hw911_3), (pw_cell_below HB.out hw912_0), (pw_cell_below HB.out hw912_1), (pw_cell_below HB.out hw912_2), (pw_cell_below HB.out hw912_3), (pw_cell_below HB.out hw913_0), (pw_cell_below HB.out hw913_1), (pw_cell_below HB.out hw913_2), (pw_cell_below HB.out hw913_3), (pw_cell_below HB.out hw914_0), (pw_cell_below HB.out hw914_1), (pw_cell_below HB.out hw914_2), (pw_cell_below HB.out hw914_3)⟩ (fun hHeld => ?_); refine with_tabW sequentref04_Extends.tab11 sequentref04_Extends.bits11 (fun HT_ HW_ => ?_)
              generalize wr.drew = w38 at BK907 BK908 HB HR911_3 HR912_3 HR913_3 HR914_3 hx911_0 hx911_1 hx911_2 hx911_3 hx912_0 hx912_1 hx912_2 hx912_3 hx913_0 hx913_1 hx913_2 hx913_3 hx914_0 hx914_1 hx914_2 hx914_3 hHeld ⊢
              refine pure_ (i := 0) (N := some 48) (v := ?_) (a' := ?_) #[true, false, false, false, false, false, false, false, false, false, false, false, false, false, false, false, false, false, false, false, false, false, false, false, false, false, false, false, false] rfl rfl (any_of HT_.out (by kernel_rfl)) (fun _ _ _ h => h) (Or.inl ⟨by rfl, ?_⟩) ?_ ?_
              rotate_left
              ·intro w'
               go_simp
               with_reducible rfl
              rotate_left
              ·simp only [Act.put, List.setIfInBounds_toArray, List.set_cons_zero, List.set_cons_succ, i64_w, i32_w]
               rfl
              refine pure_ (i := 2) (N := some 50) (v := ?_) (a' := ?_) #[true, false, true, false, false, false, false, false, false, false, false, false, false, false, false, false, false, false, false, false, false, false, false, false, false, false, false, false, false] rfl rfl (any_of HT_.out (by kernel_rfl)) (fun _ _ _ h => h) (Or.inl ⟨by rfl, ?_⟩) ?_ ?_
              rotate_left
              ·intro w'
               go_simp
               with_reducible rfl
              rotate_left
              ·simp only [Act.put, List.setIfInBounds_toArray, List.set_cons_zero, List.set_cons_succ, i64_w, i32_w]
               rfl
              refine pure_ (i := 6) (N := some 54) (v := ?_) (a' := ?_) #[true, false, true, false, false, false, true, false, false, false, false, false, false, false, false, false, false, false, false, false, false, false, false, false, false, false, false, false, false] rfl rfl (any_of HT_.out (by kernel_rfl)) (fun _ _ _ h => h) (Or.inl ⟨by rfl, ?_⟩) ?_ ?_
              rotate_left
              ·intro w'
               go_simp
               with_reducible rfl
              rotate_left
              ·simp only [Act.put, List.setIfInBounds_toArray, List.set_cons_zero, List.set_cons_succ, i64_w, i32_w]
               rfl
              refine pure_ (i := 8) (N := some 56) (v := ?_) (a' := ?_) #[true, false, true, false, false, false, true, false, true, false, false, false, false, false, false, false, false, false, false, false, false, false, false, false, false, false, false, false, false] rfl rfl (any_of HT_.out (by kernel_rfl)) (fun _ _ _ h => h) (Or.inl ⟨by rfl, ?_⟩) ?_ ?_
              rotate_left
              ·intro w'
               go_simp
               with_reducible rfl
              rotate_left
              ·simp only [Act.put, List.setIfInBounds_toArray, List.set_cons_zero, List.set_cons_succ, i64_w, i32_w]
               rfl
              refine take_ (i := 1) (N := some 49) (v := ?_) (a' := ?_) #[true, true, true, false, false, false, true, false, true, false, false, false, false, false, false, false, false, false, false, false, false, false, false, false, false, false, false, false, false] rfl rfl (take_ofW HT_.out HW_.out (by kernel_rfl)) (fun _ _ _ h => h) (Or.inl ⟨by rfl, ?_⟩) hHeld ?_ ?_
              rotate_left
              ·rintro w' ⟨s0, s1, s2, s3, s4, s5, s6, s7, s8, s9, s10, s11, s12, s13, s14, s15, s16, s17, s18, s19⟩
               go_simp
               with_reducible rfl
              rotate_left
              ·simp only [Act.put, List.setIfInBounds_toArray, List.set_cons_zero, List.set_cons_succ, i64_w, i32_w]
               rfl
              refine pure_ (i := 3) (N := some 51) (v := ?_) (a' := ?_) #[true, true, true, true, false, false, true, false, true, false, false, false, false, false, false, false, false, false, false, false, false, false, false, false, false, false, false, false, false] rfl rfl (any_of HT_.out (by kernel_rfl)) (fun _ _ _ h => h) (Or.inl ⟨by rfl, ?_⟩) ?_ ?_
              rotate_left
              ·intro w'
               go_simp
               with_reducible rfl
              rotate_left
              ·simp only [Act.put, List.setIfInBounds_toArray, List.set_cons_zero, List.set_cons_succ, i64_w, i32_w]
               rfl
              refine pure_ (i := 4) (N := some 52) (v := ?_) (a' := ?_) #[true, true, true, true, true, false, true, false, true, false, false, false, false, false, false, false, false, false, false, false, false, false, false, false, false, false, false, false, false] rfl rfl (any_of HT_.out (by kernel_rfl)) (fun _ _ _ h => h) (Or.inl ⟨by rfl, ?_⟩) ?_ ?_
              rotate_left
              ·intro w'
               go_simp
               with_reducible rfl
              rotate_left
              ·simp only [Act.put, List.setIfInBounds_toArray, List.set_cons_zero, List.set_cons_succ, i64_w, i32_w]
               rfl
              refine take_ (i := 5) (N := some 53) (v := ?_) (a' := ?_) #[true, true, true, true, true, true, true, false, true, false, false, false, false, false, false, false, false, false, false, false, false, false, false, false, false, false, false, false, false] rfl rfl (take_ofW HT_.out HW_.out (by kernel_rfl)) (fun _ _ _ h => h) (Or.inl ⟨by rfl, ?_⟩) hHeld ?_ ?_
              rotate_left
              ·rintro w' ⟨s0, s1, s2, s3, s4, s5, s6, s7, s8, s9, s10, s11, s12, s13, s14, s15, s16, s17, s18, s19⟩
               go_simp
               with_reducible rfl
              rotate_left
              ·simp only [Act.put, List.setIfInBounds_toArray, List.set_cons_zero, List.set_cons_succ, i64_w, i32_w]
               rfl
              refine take_ (i := 7) (N := some 55) (v := ?_) (a' := ?_) #[true, true, true, true, true, true, true, true, true, false, false, false, false, false, false, false, false, false, false, false, false, false, false, false, false, false, false, false, false] rfl rfl (take_ofW HT_.out HW_.out (by kernel_rfl)) (fun _ _ _ h => h) (Or.inl ⟨by rfl, ?_⟩) hHeld ?_ ?_
              rotate_left
              ·rintro w' ⟨s0, s1, s2, s3, s4, s5, s6, s7, s8, s9, s10, s11, s12, s13, s14, s15, s16, s17, s18, s19⟩
               go_simp
               with_reducible rfl
              rotate_left
              ·simp only [Act.put, List.setIfInBounds_toArray, List.set_cons_zero, List.set_cons_succ, i64_w, i32_w]
               rfl
              refine pure_ (i := 9) (N := some 57) (v := ?_) (a' := ?_) #[true, true, true, true, true, true, true, true, true, true, false, false, false, false, false, false, false, false, false, false, false, false, false, false, false, false, false, false, false] rfl rfl (any_of HT_.out (by kernel_rfl)) (fun _ _ _ h => h) (Or.inl ⟨by rfl, ?_⟩) ?_ ?_
              rotate_left
              ·intro w'
               go_simp
               with_reducible rfl
              rotate_left
              ·simp only [Act.put, List.setIfInBounds_toArray, List.set_cons_zero, List.set_cons_succ, i64_w, i32_w]
               rfl
              refine pure_ (i := 10) (N := some 58) (v := ?_) (a' := ?_) #[true, true, true, true, true, true, true, true, true, true, true, false, false, false, false, false, false, false, false, false, false, false, false, false, false, false, false, false, false] rfl rfl (any_of HT_.out (by kernel_rfl)) (fun _ _ _ h => h) (Or.inl ⟨by rfl, ?_⟩) ?_ ?_
              rotate_left
              ·intro w'
               go_simp
               with_reducible rfl
              rotate_left
              ·simp only [Act.put, List.setIfInBounds_toArray, List.set_cons_zero, List.set_cons_succ, i64_w, i32_w]
               rfl
              refine take_ (i := 11) (N := some 59) (v := ?_) (a' := ?_) #[true, true, true, true, true, true, true, true, true, true, true, true, false, false, false, false, false, false, false, false, false, false, false, false, false, false, false, false, false] rfl rfl (take_ofW HT_.out HW_.out (by kernel_rfl)) (fun _ _ _ h => h) (Or.inl ⟨by rfl, ?_⟩) hHeld ?_ ?_
              rotate_left
              ·rintro w' ⟨s0, s1, s2, s3, s4, s5, s6, s7, s8, s9, s10, s11, s12, s13, s14, s15, s16, s17, s18, s19⟩
               go_simp
               with_reducible rfl
              rotate_left
              ·simp only [Act.put, List.setIfInBounds_toArray, List.set_cons_zero, List.set_cons_succ, i64_w, i32_w]
               rfl
              refine pure_ (i := 12) (N := some 60) (v := ?_) (a' := ?_) #[true, true, true, true, true, true, true, true, true, true, true, true, true, false, false, false, false, false, false, false, false, false, false, false, false, false, false, false, false] rfl rfl (any_of HT_.out (by kernel_rfl)) (fun _ _ _ h => h) (Or.inl ⟨by rfl, ?_⟩) ?_ ?_
              rotate_left
              ·intro w'
               go_simp
               with_reducible rfl
              rotate_left
              ·simp only [Act.put, List.setIfInBounds_toArray, List.set_cons_zero, List.set_cons_succ, i64_w, i32_w]
               rfl
              refine pure_ (i := 13) (N := some 61) (v := ?_) (a' := ?_) #[true, true, true, true, true, true, true, true, true, true, true, true, true, true, false, false, false, false, false, false, false, false, false, false, false, false, false, false, false] rfl rfl (any_of HT_.out (by kernel_rfl)) (fun _ _ _ h => h) (Or.inl ⟨by rfl, ?_⟩) ?_ ?_
              rotate_left
              ·intro w'
               go_simp
               with_reducible rfl
              rotate_left
              ·simp only [Act.put, List.setIfInBounds_toArray, List.set_cons_zero, List.set_cons_succ, i64_w, i32_w]
               rfl
              refine pure_ (i := 14) (N := some 62) (v := ?_) (a' := ?_) #[true, true, true, true, true, true, true, true, true, true, true, true, true, true, true, false, false, false, false, false, false, false, false, false, false, false, false, false, false] rfl rfl (any_of HT_.out (by kernel_rfl)) (fun _ _ _ h => h) (Or.inl ⟨by rfl, ?_⟩) ?_ ?_
              rotate_left
              ·intro w'
               go_simp
               with_reducible rfl
              rotate_left
              ·simp only [Act.put, List.setIfInBounds_toArray, List.set_cons_zero, List.set_cons_succ, i64_w, i32_w]
               rfl
              refine pure_ (i := 16) (N := some 64) (v := ?_) (a' := ?_) #[true, true, true, true, true, true, true, true, true, true, true, true, true, true, true, false, true, false, false, false, false, false, false, false, false, false, false, false, false] rfl rfl (any_of HT_.out (by kernel_rfl)) (fun _ _ _ h => h) (Or.inl ⟨by rfl, ?_⟩) ?_ ?_
              rotate_left
              ·intro w'
               go_simp
               with_reducible rfl
              rotate_left
              ·simp only [Act.put, List.setIfInBounds_toArray, List.set_cons_zero, List.set_cons_succ, i64_w, i32_w]
               rfl
              refine pure_ (i := 20) (N := some 68) (v := ?_) (a' := ?_) #[true, true, true, true, true, true, true, true, true, true, true, true, true, true, true, false, true, false, false, false, true, false, false, false, false, false, false, false, false] rfl rfl (any_of HT_.out (by kernel_rfl)) (fun _ _ _ h => h) (Or.inl ⟨by rfl, ?_⟩) ?_ ?_
              rotate_left
              ·intro w'
               go_simp
               with_reducible rfl
              rotate_left
              ·simp only [Act.put, List.setIfInBounds_toArray, List.set_cons_zero, List.set_cons_succ, i64_w, i32_w]
               rfl
              refine pure_ (i := 22) (N := some 70) (v := ?_) (a' := ?_) #[true, true, true, true, true, true, true, true, true, true, true, true, true, true, true, false, true, false, false, false, true, false, true, false, false, false, false, false, false] rfl rfl (any_of HT_.out (by kernel_rfl)) (fun _ _ _ h => h) (Or.inl ⟨by rfl, ?_⟩) ?_ ?_
              rotate_left
              ·intro w'
               go_simp
               with_reducible rfl
              rotate_left
              ·simp only [Act.put, List.setIfInBounds_toArray, List.set_cons_zero, List.set_cons_succ, i64_w, i32_w]
               rfl
              refine take_ (i := 15) (N := some 63) (v := ?_) (a' := ?_) #[true, true, true, true, true, true, true, true, true, true, true, true, true, true, true, true, true, false, false, false, true, false, true, false, false, false, false, false, false] rfl rfl (take_ofW HT_.out HW_.out (by kernel_rfl)) (fun _ _ _ h => h) (Or.inl ⟨by rfl, ?_⟩) hHeld ?_ ?_
              rotate_left
              ·rintro w' ⟨s0, s1, s2, s3, s4, s5, s6, s7, s8, s9, s10, s11, s12, s13, s14, s15, s16, s17, s18, s19⟩
               go_simp
               with_reducible rfl
              rotate_left
              ·simp only [Act.put, List.setIfInBounds_toArray, List.set_cons_zero, List.set_cons_succ, i64_w, i32_w]
               rfl
              refine pure_ (i := 17) (N := some 65) (v := ?_) (a' := ?_) #[true, true, true, true, true, true, true, true, true, true, true, true, true, true, true, true, true, true, false, false, true, false, true, false, false, false, false, false, false] rfl rfl (any_of HT_.out (by kernel_rfl)) (fun _ _ _ h => h) (Or.inl ⟨by rfl, ?_⟩) ?_ ?_
              rotate_left
              ·intro w'
               go_simp
               with_reducible rfl
              rotate_left
              ·simp only [Act.put, List.setIfInBounds_toArray, List.set_cons_zero, List.set_cons_succ, i64_w, i32_w]
               rfl
              refine pure_ (i := 18) (N := some 66) (v := ?_) (a' := ?_) #[true, true, true, true, true, true, true, true, true, true, true, true, true, true, true, true, true, true, true, false, true, false, true, false, false, false, false, false, false] rfl rfl (any_of HT_.out (by kernel_rfl)) (fun _ _ _ h => h) (Or.inl ⟨by rfl, ?_⟩) ?_ ?_
              rotate_left
              ·intro w'
               go_simp
               with_reducible rfl
              rotate_left
              ·simp only [Act.put, List.setIfInBounds_toArray, List.set_cons_zero, List.set_cons_succ, i64_w, i32_w]
               rfl
              refine take_ (i := 19) (N := some 67) (v := ?_) (a' := ?_) #[true, true, true, true, true, true, true, true, true, true, true, true, true, true, true, true, true, true, true, true, true, false, true, false, false, false, false, false, false] rfl rfl (take_ofW HT_.out HW_.out (by kernel_rfl)) (fun _ _ _ h => h) (Or.inl ⟨by rfl, ?_⟩) hHeld ?_ ?_
              rotate_left
              ·rintro w' ⟨s0, s1, s2, s3, s4, s5, s6, s7, s8, s9, s10, s11, s12, s13, s14, s15, s16, s17, s18, s19⟩
               go_simp
               with_reducible rfl
              rotate_left
              ·simp only [Act.put, List.setIfInBounds_toArray, List.set_cons_zero, List.set_cons_succ, i64_w, i32_w]
               rfl
              refine take_ (i := 21) (N := some 69) (v := ?_) (a' := ?_) #[true, true, true, true, true, true, true, true, true, true, true, true, true, true, true, true, true, true, true, true, true, true, true, false, false, false, false, false, false] rfl rfl (take_ofW HT_.out HW_.out (by kernel_rfl)) (fun _ _ _ h => h) (Or.inl ⟨by rfl, ?_⟩) hHeld ?_ ?_
              rotate_left
              ·rintro w' ⟨s0, s1, s2, s3, s4, s5, s6, s7, s8, s9, s10, s11, s12, s13, s14, s15, s16, s17, s18, s19⟩
               go_simp
               with_reducible rfl
              rotate_left
              ·simp only [Act.put, List.setIfInBounds_toArray, List.set_cons_zero, List.set_cons_succ, i64_w, i32_w]
               rfl
              refine pure_ (i := 23) (N := some 71) (v := ?_) (a' := ?_) #[true, true, true, true, true, true, true, true, true, true, true, true, true, true, true, true, true, true, true, true, true, true, true, true, false, false, false, false, false] rfl rfl (any_of HT_.out (by kernel_rfl)) (fun _ _ _ h => h) (Or.inl ⟨by rfl, ?_⟩) ?_ ?_
              rotate_left
              ·intro w'
               go_simp
               with_reducible rfl
              rotate_left
              ·simp only [Act.put, List.setIfInBounds_toArray, List.set_cons_zero, List.set_cons_succ, i64_w, i32_w]
               rfl
              refine pure_ (i := 24) (N := some 72) (v := ?_) (a' := ?_) #[true, true, true, true, true, true, true, true, true, true, true, true, true, true, true, true, true, true, true, true, true, true, true, true, true, false, false, false, false] rfl rfl (any_of HT_.out (by kernel_rfl)) (fun _ _ _ h => h) (Or.inl ⟨by rfl, ?_⟩) ?_ ?_
              rotate_left
              ·intro w'
               go_simp
               with_reducible rfl
              rotate_left
              ·simp only [Act.put, List.setIfInBounds_toArray, List.set_cons_zero, List.set_cons_succ, i64_w, i32_w]
               rfl
              refine take_ (i := 25) (N := some 73) (v := ?_) (a' := ?_) #[true, true, true, true, true, true, true, true, true, true, true, true, true, true, true, true, true, true, true, true, true, true, true, true, true, true, false, false, false] rfl rfl (take_ofW HT_.out HW_.out (by kernel_rfl)) (fun _ _ _ h => h) (Or.inl ⟨by rfl, ?_⟩) hHeld ?_ ?_
              rotate_left
              ·rintro w' ⟨s0, s1, s2, s3, s4, s5, s6, s7, s8, s9, s10, s11, s12, s13, s14, s15, s16, s17, s18, s19⟩
               go_simp
               with_reducible rfl
              rotate_left
              ·simp only [Act.put, List.setIfInBounds_toArray, List.set_cons_zero, List.set_cons_succ, i64_w, i32_w]
               rfl
              refine one_ (i := 26) (N := some 74) #[true, true, true, true, true, true, true, true, true, true, true, true, true, true, true, true, true, true, true, true, true, true, true, true, true, true, true, false, false] rfl rfl (one_of HT_.out (by kernel_rfl)) (by decide) (fun K hK => ?_)
              refine goes_ Try.func18 (by kernel_rfl) rfl #[.agg #[.bool ((rd_T92 l0_1 x6_3).f1.f0), .string ((rd_T92 l0_1 x6_3).f1.f1), .slice A911_3 ((rd_T92 l0_1 x6_3).f1.f2).length c911_3], .agg #[.bool ((rd_T92 l1_1 x6_3).f1.f0), .string ((rd_T92 l1_1 x6_3).f1.f1), .slice A912_3 ((rd_T92 l1_1 x6_3).f1.f2).length c912_3]] (by rfl) rfl rfl (by (try simp only [List.map_toArray, List.map_cons, List.map_nil]); first | done | rfl | (simp only [List.length_drop, List.length_take]; rfl)) ?_
              with_reducible refine (sequentref01_Same.calls k3 ((rd_T92 l0_1 x6_3).f1.f0) ((rd_T92 l0_1 x6_3).f1.f1) _ _ ((rd_T92 l0_1 x6_3).f1.f2) ((rd_T92 l1_1 x6_3).f1.f0) ((rd_T92 l1_1 x6_3).f1.f1) _ _ ((rd_T92 l1_1 x6_3).f1.f2) false _ ?side1 ?side2 ?side3 ?side4 A30.out).mono ?_
              (case side1 => repeat (first | exact (Kd.C_below HR913_3.out HB.out) | (with_reducible refine Kd.C_alloc ?_ _) | (with_reducible refine Kd.C_drewN ?_ _) | (with_reducible refine Kd.C_drew ?_)))
              (case side2 => exact HC913_3.out)
              (case side3 => repeat (first | exact (Kd.C_below HR914_3.out HB.out) | (with_reducible refine Kd.C_alloc ?_ _) | (with_reducible refine Kd.C_drewN ?_ _) | (with_reducible refine Kd.C_drew ?_)))
              (case side4 => exact HC914_3.out)
              rintro e w39 ⟨rfl, hb⟩
              refine ⟨_, rfl, ?_⟩
              have n0_ := Aside0.mk (blk_below (g := gb907) (o := .cells #[.slice A0_0 l0_0.length c0_0, .slice (some ad911) l0_1.length c0_1] 81 (0, 0)) (bk_ BK907) hb)
              have n1_ := Aside0.mk (blk_below (g := gb908) (o := .cells #[.slice A1_0 l1_0.length c1_0, .slice (some ad912) l1_1.length c1_1] 81 (0, 0)) (bk_ BK908) hb)
              have n2_ := Aside0.mk (below_step bel_ hb)
              clear BK907
              clear BK908
              clear HB
              have BK907 := n0_
              have BK908 := n1_
              have HB := n2_
              clear n0_ n1_ n2_
              (try clear hb)
              (try clear hb2)
              (try clear hk)
              (try clear hi)
              refine hK.out _ _ ⟨(blk_cell BK907.out 0).trans rfl, (blk_cell BK907.out 1).trans rfl, (blk_cell BK908.out 0).trans rfl, (blk_cell BK908.out 1).trans rfl, (pw_cell_below HB.out hw911_0), (pw_cell_below HB.out hw911_1), (pw_cell_below HB.out hw911_2), (pw_cell_below HB.out hw911_3), (pw_cell_below HB.out hw912_0), (pw_cell_below HB.out hw912_1), (pw_cell_below HB.out hw912_2), (pw_cell_below HB.out hw912_3), (pw_cell_below HB.out hw913_0), (pw_cell_below HB.out hw913_1), (pw_cell_below HB.out hw913_2), (pw_cell_below HB.out hw913_3), (pw_cell_below HB.out hw914_0), (pw_cell_below HB.out hw914_1), (pw_cell_below HB.out hw914_2), (pw_cell_below HB.out hw914_3)⟩ (fun hHeld => ?_)
              clear hK K
              refine norm_ (a' := ?_) ?_ ?_
              rotate_left
              ·show Act.put _ (some 74) _ = _
               simp only [Act.put, List.setIfInBounds_toArray, List.set_cons_zero, List.set_cons_succ, i64_w, i32_w]
               rfl
              refine pure_ (i := 27) (N := some 75) (v := ?_) (a' := ?_) #[true, true, true, true, true, true, true, true, true, true, true, true, true, true, true, true, true, true, true, true, true, true, true, true, true, true, true, true, false] rfl rfl (any_of HT_.out (by kernel_rfl)) (fun _ _ _ h => h) (Or.inl ⟨by rfl, ?_⟩) ?_ ?_
              rotate_left
              ·intro w'
               go_simp
               with_reducible rfl
              rotate_left
              ·simp only [Act.put, List.setIfInBounds_toArray, List.set_cons_zero, List.set_cons_succ, i64_w, i32_w]
               rfl
              refine pure_ (i := 28) (N := some 76) (v := ?_) (a' := ?_) #[true, true, true, true, true, true, true, true, true, true, true, true, true, true, true, true, true, true, true, true, true, true, true, true, true, true, true, true, true] rfl rfl (any_of HT_.out (by kernel_rfl)) (fun _ _ _ h => h) (Or.inl ⟨by rfl, ?_⟩) ?_ ?_
              rotate_left
              ·intro w'
               go_simp
               with_reducible rfl
              rotate_left
              ·simp only [Act.put, List.setIfInBounds_toArray, List.set_cons_zero, List.set_cons_succ, i64_w, i32_w]
               rfl
              refine done_ (done_of HT_.out (by kernel_rfl)) ?_
              try go_wp2
              go_ret
              exact ⟨by first | rfl | (simp [errW_none, errW_some] <;> rfl) | (simp [*, errW_none, errW_some] <;> rfl), bel_⟩
            ·rw [if_neg c29] at H
             have c29b0 : (((rd_T92 l0_1 x6_3).f0).toList == ((rd_T92 l1_1 x6_3).f0).toList) = false := beq_eq_false_iff_ne.mpr c29
             have c29b1 : (((rd_T92 l0_1 x6_3).f0).toList != ((rd_T92 l1_1 x6_3).f0).toList) = true := bne_iff_ne.mpr c29
             obtain rfl := Option.some.inj H
             have hnb40 := NB908_907.out
             have hnc40 := NB907_908.out
             have hcz41_0 : wr.cell? ⟨gb908, 0, none⟩ = some (.slice A1_0 l1_0.length c1_0) := (blk_cell BK908.out 0).trans rfl
             have hcz41_1 : wr.cell? ⟨gb908, 1, none⟩ = some (.slice A1_1 l1_1.length c1_1) := (blk_cell BK908.out 1).trans rfl
             have hfz41_0 := blk_frozen BK908.out 0
             have hfz41_1 := blk_frozen BK908.out 1
             try go_wp2
             have n0_ := Aside0.mk (blk_drew BK907.out)
             have n1_ := Aside0.mk (blk_drew BK908.out)
             have n2_ := Aside0.mk (below_drew1 HB.out)
             clear BK907
             clear BK908
             clear HB
             have BK907 := n0_
             have BK908 := n1_
             have HB := n2_
             clear n0_ n1_ n2_
             have p911 : 0 ≤ (x6_3 : Int) := dq_
             have q911 : x6_3 < (l0_1.length : Int) := dq_
             obtain ⟨ad911, A911_3, c911_3, e911, hx911_0, hx911_1, hx911_2, hx911_3, hl911_3, hi911_3⟩ := at_T92 HR0_1.out x6_3 p911 q911
             have hw911_3 := hx911_3
             have hw911_2 := hx911_2
             have hw911_1 := hx911_1
             have hw911_0 := hx911_0
             cases e911
             replace hx911_0 := pw_cell_below HB.out hx911_0
             replace hx911_1 := pw_cell_below HB.out hx911_1
             replace hx911_2 := pw_cell_below HB.out hx911_2
             replace hx911_3 := pw_cell_below HB.out hx911_3
             have HR911_3 := Aside0.mk hi911_3
             have HC911_3 := Aside0.mk hl911_3
             clear hi911_3 hl911_3
             replace p911 := eq_true p911
             replace q911 := eq_true q911
             have p912 : 0 ≤ (x6_3 : Int) := dq_
             have q912 : x6_3 < (l1_1.length : Int) := dq_
             obtain ⟨ad912, A912_3, c912_3, e912, hx912_0, hx912_1, hx912_2, hx912_3, hl912_3, hi912_3⟩ := at_T92 HR1_1.out x6_3 p912 q912
             have hw912_3 := hx912_3
             have hw912_2 := hx912_2
             have hw912_1 := hx912_1
             have hw912_0 := hx912_0
             cases e912
             replace hx912_0 := pw_cell_below HB.out hx912_0
             replace hx912_1 := pw_cell_below HB.out hx912_1
             replace hx912_2 := pw_cell_below HB.out hx912_2
             replace hx912_3 := pw_cell_below HB.out hx912_3
             have HR912_3 := Aside0.mk hi912_3
             have HC912_3 := Aside0.mk hl912_3
             clear hi912_3 hl912_3
             replace p912 := eq_true p912
             replace q912 := eq_true q912
             refine start_ (n := 29) (S := fun w' => w'.cell? ⟨gb907, 0, none⟩ = some (.slice A0_0 l0_0.length c0_0) ∧ w'.cell? ⟨gb907, 1, none⟩ = some (.slice (some ad911) l0_1.length c0_1) ∧ w'.cell? ⟨gb908, 0, none⟩ = some (.slice A1_0 l1_0.length c1_0) ∧ w'.cell? ⟨gb908, 1, none⟩ = some (.slice (some ad912) l1_1.length c1_1) ∧ w'.cell? (ad911.add ((x6_3).toNat * 4)) = some (.string ((rd_T92 l0_1 x6_3).f0)) ∧ w'.cell? ⟨(ad911.add ((x6_3).toNat * 4)).block, (ad911.add ((x6_3).toNat * 4)).off + 1, none⟩ = some (.bool ((rd_T92 l0_1 x6_3).f1.f0)) ∧ w'.cell? ⟨(ad911.add ((x6_3).toNat * 4)).block, (ad911.add ((x6_3).toNat * 4)).off + 2, none⟩ = some (.string ((rd_T92 l0_1 x6_3).f1.f1)) ∧ w'.cell? ⟨(ad911.add ((x6_3).toNat * 4)).block, (ad911.add ((x6_3).toNat * 4)).off + 3, none⟩ = some (.slice A911_3 ((rd_T92 l0_1 x6_3).f1.f2).length c911_3) ∧ w'.cell? (ad912.add ((x6_3).toNat * 4)) = some (.string ((rd_T92 l1_1 x6_3).f0)) ∧ w'.cell? ⟨(ad912.add ((x6_3).toNat * 4)).block, (ad912.add ((x6_3).toNat * 4)).off + 1, none⟩ = some (.bool ((rd_T92 l1_1 x6_3).f1.f0)) ∧ w'.cell? ⟨(ad912.add ((x6_3).toNat * 4)).block, (ad912.add ((x6_3).toNat * 4)).off + 2, none⟩ = some (.string ((rd_T92 l1_1 x6_3).f1.f1)) ∧ w'.cell? ⟨(ad912.add ((x6_3).toNat * 4)).block, (ad912.add ((x6_3).toNat * 4)).off + 3, none⟩ = some (.slice A912_3 ((rd_T92 l1_1 x6_3).f1.f2).length c912_3)) (ds := []) #[false, false, false, false, false, false, false, false, false, false, false, false, false, false, false, false, false, false, false, false, false, false, false, false, false, false, false, false, false] (by kernel_rfl) rfl rfl ⟨(blk_cell BK907.out 0).trans rfl, (blk_cell BK907.out 1).trans rfl, (blk_cell BK908.out 0).trans rfl, (blk_cell BK908.out 1).trans rfl, (pw_cell_below HB.out hw911_0), (pw_cell_below HB.out hw911_1), (pw_cell_below HB.out hw911_2), (pw_cell_below HB.out hw911_3), (pw_cell_below HB.out hw912_0), (pw_cell_below HB.out hw912_1), (pw_cell_below HB.out hw912_2), (pw_cell_below HB.out hw912_3)⟩ (fun hHeld => ?_); refine with_tabW sequentref04_Extends.tab11 sequentref04_Extends.bits11 (fun HT_ HW_ => ?_)
             generalize wr.drew = w42 at BK907 BK908 HB HR911_3 HR912_3 hx911_0 hx911_1 hx911_2 hx911_3 hx912_0 hx912_1 hx912_2 hx912_3 hHeld ⊢
             refine pure_ (i := 0) (N := some 48) (v := ?_) (a' := ?_) #[true, false, false, false, false, false, false, false, false, false, false, false, false, false, false, false, false, false, false, false, false, false, false, false, false, false, false, false, false] rfl rfl (any_of HT_.out (by kernel_rfl)) (fun _ _ _ h => h) (Or.inl ⟨by rfl, ?_⟩) ?_ ?_
             rotate_left
             ·intro w'
              go_simp
              with_reducible rfl
             rotate_left
             ·simp only [Act.put, List.setIfInBounds_toArray, List.set_cons_zero, List.set_cons_succ, i64_w, i32_w]
              rfl
             refine pure_ (i := 2) (N := some 50) (v := ?_) (a' := ?_) #[true, false, true, false, false, false, false, false, false, false, false, false, false, false, false, false, false, false, false, false, false, false, false, false, false, false, false, false, false] rfl rfl (any_of HT_.out (by kernel_rfl)) (fun _ _ _ h => h) (Or.inl ⟨by rfl, ?_⟩) ?_ ?_
             rotate_left
             ·intro w'
              go_simp
              with_reducible rfl
             rotate_left
             ·simp only [Act.put, List.setIfInBounds_toArray, List.set_cons_zero, List.set_cons_succ, i64_w, i32_w]
              rfl
             refine pure_ (i := 6) (N := some 54) (v := ?_) (a' := ?_) #[true, false, true, false, false, false, true, false, false, false, false, false, false, false, false, false, false, false, false, false, false, false, false, false, false, false, false, false, false] rfl rfl (any_of HT_.out (by kernel_rfl)) (fun _ _ _ h => h) (Or.inl ⟨by rfl, ?_⟩) ?_ ?_
             rotate_left
             ·intro w'
              go_simp
              with_reducible rfl
             rotate_left
             ·simp only [Act.put, List.setIfInBounds_toArray, List.set_cons_zero, List.set_cons_succ, i64_w, i32_w]
              rfl
             refine pure_ (i := 8) (N := some 56) (v := ?_) (a' := ?_) #[true, false, true, false, false, false, true, false, true, false, false, false, false, false, false, false, false, false, false, false, false, false, false, false, false, false, false, false, false] rfl rfl (any_of HT_.out (by kernel_rfl)) (fun _ _ _ h => h) (Or.inl ⟨by rfl, ?_⟩) ?_ ?_
             rotate_left
             ·intro w'
              go_simp
              with_reducible rfl
             rotate_left
             ·simp only [Act.put, List.setIfInBounds_toArray, List.set_cons_zero, List.set_cons_succ, i64_w, i32_w]
              rfl
             refine take_ (i := 1) (N := some 49) (v := ?_) (a' := ?_) #[true, true, true, false, false, false, true, false, true, false, false, false, false, false, false, false, false, false, false, false, false, false, false, false, false, false, false, false, false] rfl rfl (take_ofW HT_.out HW_.out (by kernel_rfl)) (fun _ _ _ h => h) (Or.inl ⟨by rfl, ?_⟩) hHeld ?_ ?_
             rotate_left
             ·rintro w' ⟨s0, s1, s2, s3, s4, s5, s6, s7, s8, s9, s10, s11⟩
              go_simp
              with_reducible rfl
             rotate_left
             ·simp only [Act.put, List.setIfInBounds_toArray, List.set_cons_zero, List.set_cons_succ, i64_w, i32_w]
              rfl
             refine pure_ (i := 3) (N := some 51) (v := ?_) (a' := ?_) #[true, true, true, true, false, false, true, false, true, false, false, false, false, false, false, false, false, false, false, false, false, false, false, false, false, false, false, false, false] rfl rfl (any_of HT_.out (by kernel_rfl)) (fun _ _ _ h => h) (Or.inl ⟨by rfl, ?_⟩) ?_ ?_
             rotate_left
             ·intro w'
              go_simp
              with_reducible rfl
             rotate_left
             ·simp only [Act.put, List.setIfInBounds_toArray, List.set_cons_zero, List.set_cons_succ, i64_w, i32_w]
              rfl
             refine pure_ (i := 4) (N := some 52) (v := ?_) (a' := ?_) #[true, true, true, true, true, false, true, false, true, false, false, false, false, false, false, false, false, false, false, false, false, false, false, false, false, false, false, false, false] rfl rfl (any_of HT_.out (by kernel_rfl)) (fun _ _ _ h => h) (Or.inl ⟨by rfl, ?_⟩) ?_ ?_
             rotate_left
             ·intro w'
              go_simp
              with_reducible rfl
             rotate_left
             ·simp only [Act.put, List.setIfInBounds_toArray, List.set_cons_zero, List.set_cons_succ, i64_w, i32_w]
              rfl
             refine take_ (i := 5) (N := some 53) (v := ?_) (a' := ?_) #[true, true, true, true, true, true, true, false, true, false, false, false, false, false, false, false, false, false, false, false, false, false, false, false, false, false, false, false, false] rfl rfl (take_ofW HT_.out HW_.out (by kernel_rfl)) (fun _ _ _ h => h) (Or.inl ⟨by rfl, ?_⟩) hHeld ?_ ?_
             rotate_left
             ·rintro w' ⟨s0, s1, s2, s3, s4, s5, s6, s7, s8, s9, s10, s11⟩
              go_simp
              with_reducible rfl
             rotate_left
             ·simp only [Act.put, List.setIfInBounds_toArray, List.set_cons_zero, List.set_cons_succ, i64_w, i32_w]
              rfl
             refine take_ (i := 7) (N := some 55) (v := ?_) (a' := ?_) #[true, true, true, true, true, true, true, true, true, false, false, false, false, false, false, false, false, false, false, false, false, false, false, false, false, false, false, false, false] rfl rfl (take_ofW HT_.out HW_.out (by kernel_rfl)) (fun _ _ _ h => h) (Or.inl ⟨by rfl, ?_⟩) hHeld ?_ ?_
             rotate_left
             ·rintro w' ⟨s0, s1, s2, s3, s4, s5, s6, s7, s8, s9, s10, s11⟩
              go_simp
              with_reducible rfl
             rotate_left
             ·simp only [Act.put, List.setIfInBounds_toArray, List.set_cons_zero, List.set_cons_succ, i64_w, i32_w]
              rfl
             refine pure_ (i := 9) (N := some 57) (v := ?_) (a' := ?_) #[true, true, true, true, true, true, true, true, true, true, false, false, false, false, false, false, false, false, false, false, false, false, false, false, false, false, false, false, false] rfl rfl (any_of HT_.out (by kernel_rfl)) (fun _ _ _ h => h) (Or.inl ⟨by rfl, ?_⟩) ?_ ?_
             rotate_left
             ·intro w'
              go_simp
              with_reducible rfl
             rotate_left
             ·simp only [Act.put, List.setIfInBounds_toArray, List.set_cons_zero, List.set_cons_succ, i64_w, i32_w]
              rfl
             refine pure_ (i := 10) (N := some 58) (v := ?_) (a' := ?_) #[true, true, true, true, true, true, true, true, true, true, true, false, false, false, false, false, false, false, false, false, false, false, false, false, false, false, false, false, false] rfl rfl (any_of HT_.out (by kernel_rfl)) (fun _ _ _ h => h) (Or.inl ⟨by rfl, ?_⟩) ?_ ?_
             rotate_left
             ·intro w'
              go_simp
              with_reducible rfl
             rotate_left
             ·simp only [Act.put, List.setIfInBounds_toArray, List.set_cons_zero, List.set_cons_succ, i64_w, i32_w]
              rfl
             refine take_ (i := 11) (N := some 59) (v := ?_) (a' := ?_) #[true, true, true, true, true, true, true, true, true, true, true, true, false, false, false, false, false, false, false, false, false, false, false, false, false, false, false, false, false] rfl rfl (take_ofW HT_.out HW_.out (by kernel_rfl)) (fun _ _ _ h => h) (Or.inl ⟨by rfl, ?_⟩) hHeld ?_ ?_
             rotate_left
             ·rintro w' ⟨s0, s1, s2, s3, s4, s5, s6, s7, s8, s9, s10, s11⟩
              go_simp
              with_reducible rfl
             rotate_left
             ·simp only [Act.put, List.setIfInBounds_toArray, List.set_cons_zero, List.set_cons_succ, i64_w, i32_w]
              rfl
             refine pure_ (i := 12) (N := some 60) (v := ?_) (a' := ?_) #[true, true, true, true, true, true, true, true, true, true, true, true, true, false, false, false, false, false, false, false, false, false, false, false, false, false, false, false, false] rfl rfl (any_of HT_.out (by kernel_rfl)) (fun _ _ _ h => h) (Or.inl ⟨by rfl, ?_⟩) ?_ ?_
             rotate_left
             ·intro w'
              go_simp
              with_reducible rfl
             rotate_left
             ·simp only [Act.put, List.setIfInBounds_toArray, List.set_cons_zero, List.set_cons_succ, i64_w, i32_w]
              rfl
             refine pure_ (i := 13) (N := some 61) (v := ?_) (a' := ?_) #[true, true, true, true, true, true, true, true, true, true, true, true, true, true, false, false, false, false, false, false, false, false, false, false, false, false, false, false, false] rfl rfl (any_of HT_.out (by kernel_rfl)) (fun _ _ _ h => h) (Or.inl ⟨by rfl, ?_⟩) ?_ ?_
             rotate_left
             ·intro w'
              go_simp
              with_reducible rfl
             rotate_left
             ·simp only [Act.put, List.setIfInBounds_toArray, List.set_cons_zero, List.set_cons_succ, i64_w, i32_w]
              rfl
             refine pure_ (i := 14) (N := some 62) (v := undef) (a' := ?_) #[true, true, true, true, true, true, true, true, true, true, true, true, true, true, true, false, false, false, false, false, false, false, false, false, false, false, false, false, false] rfl rfl (any_of HT_.out (by kernel_rfl)) (fun _ _ _ h => h) (Or.inr ⟨by rfl, rfl⟩) ?_ ?_
             rotate_left
             ·simp only [Act.put, List.setIfInBounds_toArray, List.set_cons_zero, List.set_cons_succ, i64_w, i32_w]
              rfl
             refine pure_ (i := 15) (N := some 63) (v := undef) (a' := ?_) #[true, true, true, true, true, true, true, true, true, true, true, true, true, true, true, true, false, false, false, false, false, false, false, false, false, false, false, false, false] rfl rfl (any_of HT_.out (by kernel_rfl)) (fun _ _ _ h => h) (Or.inr ⟨by rfl, rfl⟩) ?_ ?_
             rotate_left
             ·simp only [Act.put, List.setIfInBounds_toArray, List.set_cons_zero, List.set_cons_succ, i64_w, i32_w]
              rfl
             refine pure_ (i := 16) (N := some 64) (v := undef) (a' := ?_) #[true, true, true, true, true, true, true, true, true, true, true, true, true, true, true, true, true, false, false, false, false, false, false, false, false, false, false, false, false] rfl rfl (any_of HT_.out (by kernel_rfl)) (fun _ _ _ h => h) (Or.inr ⟨by rfl, rfl⟩) ?_ ?_
             rotate_left
             ·simp only [Act.put, List.setIfInBounds_toArray, List.set_cons_zero, List.set_cons_succ, i64_w, i32_w]
              rfl
             refine pure_ (i := 17) (N := some 65) (v := undef) (a' := ?_) #[true, true, true, true, true, true, true, true, true, true, true, true, true, true, true, true, true, true, false, false, false, false, false, false, false, false, false, false, false] rfl rfl (any_of HT_.out (by kernel_rfl)) (fun _ _ _ h => h) (Or.inr ⟨by rfl, rfl⟩) ?_ ?_
             rotate_left
             ·simp only [Act.put, List.setIfInBounds_toArray, List.set_cons_zero, List.set_cons_succ, i64_w, i32_w]
              rfl
             refine pure_ (i := 18) (N := some 66) (v := undef) (a' := ?_) #[true, true, true, true, true, true, true, true, true, true, true, true, true, true, true, true, true, true, true, false, false, false, false, false, false, false, false, false, false] rfl rfl (any_of HT_.out (by kernel_rfl)) (fun _ _ _ h => h) (Or.inr ⟨by rfl, rfl⟩) ?_ ?_
             rotate_left
             ·simp only [Act.put, List.setIfInBounds_toArray, List.set_cons_zero, List.set_cons_succ, i64_w, i32_w]
              rfl
             refine pure_ (i := 19) (N := some 67) (v := undef) (a' := ?_) #[true, true, true, true, true, true, true, true, true, true, true, true, true, true, true, true, true, true, true, true, false, false, false, false, false, false, false, false, false] rfl rfl (any_of HT_.out (by kernel_rfl)) (fun _ _ _ h => h) (Or.inr ⟨by rfl, rfl⟩) ?_ ?_
             rotate_left
             ·simp only [Act.put, List.setIfInBounds_toArray, List.set_cons_zero, List.set_cons_succ, i64_w, i32_w]
              rfl
             refine pure_ (i := 20) (N := some 68) (v := undef) (a' := ?_) #[true, true, true, true, true, true, true, true, true, true, true, true, true, true, true, true, true, true, true, true, true, false, false, false, false, false, false, false, false] rfl rfl (any_of HT_.out (by kernel_rfl)) (fun _ _ _ h => h) (Or.inr ⟨by rfl, rfl⟩) ?_ ?_
             rotate_left
             ·simp only [Act.put, List.setIfInBounds_toArray, List.set_cons_zero, List.set_cons_succ, i64_w, i32_w]
              rfl
             refine pure_ (i := 21) (N := some 69) (v := undef) (a' := ?_) #[true, true, true, true, true, true, true, true, true, true, true, true, true, true, true, true, true, true, true, true, true, true, false, false, false, false, false, false, false] rfl rfl (any_of HT_.out (by kernel_rfl)) (fun _ _ _ h => h) (Or.inr ⟨by rfl, rfl⟩) ?_ ?_
             rotate_left
             ·simp only [Act.put, List.setIfInBounds_toArray, List.set_cons_zero, List.set_cons_succ, i64_w, i32_w]
              rfl
             refine pure_ (i := 22) (N := some 70) (v := undef) (a' := ?_) #[true, true, true, true, true, true, true, true, true, true, true, true, true, true, true, true, true, true, true, true, true, true, true, false, false, false, false, false, false] rfl rfl (any_of HT_.out (by kernel_rfl)) (fun _ _ _ h => h) (Or.inr ⟨by rfl, rfl⟩) ?_ ?_
             rotate_left
             ·simp only [Act.put, List.setIfInBounds_toArray, List.set_cons_zero, List.set_cons_succ, i64_w, i32_w]
              rfl
             refine pure_ (i := 23) (N := some 71) (v := undef) (a' := ?_) #[true, true, true, true, true, true, true, true, true, true, true, true, true, true, true, true, true, true, true, true, true, true, true, true, false, false, false, false, false] rfl rfl (any_of HT_.out (by kernel_rfl)) (fun _ _ _ h => h) (Or.inr ⟨by rfl, rfl⟩) ?_ ?_
             rotate_left
             ·simp only [Act.put, List.setIfInBounds_toArray, List.set_cons_zero, List.set_cons_succ, i64_w, i32_w]
              rfl
             refine pure_ (i := 24) (N := some 72) (v := undef) (a' := ?_) #[true, true, true, true, true, true, true, true, true, true, true, true, true, true, true, true, true, true, true, true, true, true, true, true, true, false, false, false, false] rfl rfl (any_of HT_.out (by kernel_rfl)) (fun _ _ _ h => h) (Or.inr ⟨by rfl, rfl⟩) ?_ ?_
             rotate_left
             ·simp only [Act.put, List.setIfInBounds_toArray, List.set_cons_zero, List.set_cons_succ, i64_w, i32_w]
              rfl
             refine pure_ (i := 25) (N := some 73) (v := undef) (a' := ?_) #[true, true, true, true, true, true, true, true, true, true, true, true, true, true, true, true, true, true, true, true, true, true, true, true, true, true, false, false, false] rfl rfl (any_of HT_.out (by kernel_rfl)) (fun _ _ _ h => h) (Or.inr ⟨by rfl, rfl⟩) ?_ ?_
             rotate_left
             ·simp only [Act.put, List.setIfInBounds_toArray, List.set_cons_zero, List.set_cons_succ, i64_w, i32_w]
              rfl
             refine pure_ (i := 26) (N := some 74) (v := undef) (a' := ?_) #[true, true, true, true, true, true, true, true, true, true, true, true, true, true, true, true, true, true, true, true, true, true, true, true, true, true, true, false, false] rfl rfl (any_of HT_.out (by kernel_rfl)) (fun _ _ _ h => h) (Or.inr ⟨by rfl, rfl⟩) ?_ ?_
             rotate_left
             ·simp only [Act.put, List.setIfInBounds_toArray, List.set_cons_zero, List.set_cons_succ, i64_w, i32_w]
              rfl
             refine pure_ (i := 27) (N := some 75) (v := undef) (a' := ?_) #[true, true, true, true, true, true, true, true, true, true, true, true, true, true, true, true, true, true, true, true, true, true, true, true, true, true, true, true, false] rfl rfl (any_of HT_.out (by kernel_rfl)) (fun _ _ _ h => h) (Or.inr ⟨by rfl, rfl⟩) ?_ ?_
             rotate_left
             ·simp only [Act.put, List.setIfInBounds_toArray, List.set_cons_zero, List.set_cons_succ, i64_w, i32_w]
              rfl
             refine pure_ (i := 28) (N := some 76) (v := ?_) (a' := ?_) #[true, true, true, true, true, true, true, true, true, true, true, true, true, true, true, true, true, true, true, true, true, true, true, true, true, true, true, true, true] rfl rfl (any_of HT_.out (by kernel_rfl)) (fun _ _ _ h => h) (Or.inl ⟨by rfl, ?_⟩) ?_ ?_
             rotate_left
             ·intro w'
              go_simp
              with_reducible rfl
             rotate_left
             ·simp only [Act.put, List.setIfInBounds_toArray, List.set_cons_zero, List.set_cons_succ, i64_w, i32_w]
              rfl
             refine done_ (done_of HT_.out (by kernel_rfl)) ?_
             try go_wp2
             go_ret
             exact ⟨by first | rfl | (simp [errW_none, errW_some] <;> rfl) | (simp [*, errW_none, errW_some] <;> rfl), bel_⟩
           ·rw [if_neg c28] at H
            exact absurd H (by simp)
          ·rw [if_neg c27] at H
           exact absurd H (by simp)
         ·rw [if_neg c26] at H
          have c26b0 : decide (x6_3 < (l1_1.length : Int)) = false := decide_eq_false c26
          clear c26
          obtain rfl := Option.some.inj H
          have hnb43 := NB908_907.out
          have hnc43 := NB907_908.out
          have hcz44_0 : wr.cell? ⟨gb908, 0, none⟩ = some (.slice A1_0 l1_0.length c1_0) := (blk_cell BK908.out 0).trans rfl
          have hcz44_1 : wr.cell? ⟨gb908, 1, none⟩ = some (.slice A1_1 l1_1.length c1_1) := (blk_cell BK908.out 1).trans rfl
          have hfz44_0 := blk_frozen BK908.out 0
          have hfz44_1 := blk_frozen BK908.out 1
          go_wp2
          go_ret
          exact ⟨by first | rfl | (simp [errW_none, errW_some] <;> rfl) | (simp [*, errW_none, errW_some] <;> rfl), bel_⟩

end Go.Proofs.Ytgnklkmifcmlhaa.Q
-- written by a program of this session (wip/tools/myprint.py) out of the translation
namespace Go.Proofs.Ytgnklkmifcmlhaa.Q
open Go.RowKit Go.Proofs.YtgnklkmifcmlhaaW.PrintWords Go.Proofs.YtgnklkmifcmlhaaW.PrintLast Go.Proofs.YtgnklkmifcmlhaaW.PrintMore
attribute [local go_sem] max2_int min2_int max_two min_two max_three min_three max_four min_four   -- for this text's walks alone
set_option linter.unusedVariables false
set_option linter.unusedSimpArgs false

/-! ### sequentref04_Same: function 55 -/
def sequentref04_Same.f (k : Nat) (l0_0 : List (S124)) (l0_1 : List (S92)) (l1_0 : List (S124)) (l1_1 : List (S92)) : Option (Bool) := (sequentref04_Extends.f k l0_0 l0_1 l1_0 l1_1).bind fun t918 => (if t918 = true then ((sequentref04_Extends.f k l1_0 l1_1 l0_0 l0_1).bind fun t919 => (some t919)) else (some false))
set_option maxHeartbeats 8000000 in
set_option maxRecDepth 100000 in
theorem sequentref04_Same.calls (k : Nat) (A0_0 : Option Addr) (c0_0 : Nat) (l0_0 : List (S124)) (A0_1 : Option Addr) (c0_1 : Nat) (l0_1 : List (S92)) (A1_0 : Option Addr) (c1_0 : Nat) (l1_0 : List (S124)) (A1_1 : Option Addr) (c1_1 : Nat) (l1_1 : List (S92)) (r : Bool) (w : World) (hr0_0 : Kd.C k124 w A0_0 l0_0.length l0_0) (hc0_0 : l0_0.length ≤ c0_0) (hr0_1 : Kd.C k92 w A0_1 l0_1.length l0_1) (hc0_1 : l0_1.length ≤ c0_1) (hr1_0 : Kd.C k124 w A1_0 l1_0.length l1_0) (hc1_0 : l1_0.length ≤ c1_0) (hr1_1 : Kd.C k92 w A1_1 l1_1.length l1_1) (hc1_1 : l1_1.length ≤ c1_1) (h : sequentref04_Same.f k l0_0 l0_1 l1_0 l1_1 = some r) :
 Calls Try.prog 55 #[.agg #[.slice A0_0 l0_0.length c0_0, .slice A0_1 l0_1.length c0_1], .agg #[.slice A1_0 l1_0.length c1_0, .slice A1_1 l1_1.length c1_1]] w fun e w' => e = .returned (.bool r) ∧ Below w.heap.size w w' := by
 have hu81 := Try.underlying81
 have HR0_0 := Aside0.mk hr0_0
 have HC0_0 := Aside0.mk hc0_0
 clear hr0_0 hc0_0
 have HR0_1 := Aside0.mk hr0_1
 have HC0_1 := Aside0.mk hc0_1
 clear hr0_1 hc0_1
 have HR1_0 := Aside0.mk hr1_0
 have HC1_0 := Aside0.mk hc1_0
 clear hr1_0 hc1_0
 have HR1_1 := Aside0.mk hr1_1
 have HC1_1 := Aside0.mk hc1_1
 clear hr1_1 hc1_1
 have HB := Aside0.mk (Below.refl w.heap.size w)
 have H : ((sequentref04_Extends.f k l0_0 l0_1 l1_0 l1_1).bind fun t918 => (if t918 = true then ((sequentref04_Extends.f k l1_0 l1_1 l0_0 l0_1).bind fun t919 => (some t919)) else (some false))) = some r := h
 clear h
 replace H := Option.bind_eq_some_iff.mp H
 obtain ⟨t918, A30, H⟩ := H
 replace H : (if t918 = true then ((sequentref04_Extends.f k l1_0 l1_1 l0_0 l0_1).bind fun t919 => (some t919)) else (some false)) = some r := H
 have A3 := Aside0.mk A30
 clear A30
 by_cases c4 : t918 = true
 ·subst c4
  have H1 : ((sequentref04_Extends.f k l1_0 l1_1 l0_0 l0_1).bind fun t919 => (some t919)) = some r := by rw [if_pos rfl] at H; exact H
  clear H
  have H := H1
  clear H1
  replace H := Option.bind_eq_some_iff.mp H
  obtain ⟨t919, A50, H⟩ := H
  replace H : (some t919) = some r := H
  have A5 := Aside0.mk A50
  clear A50
  obtain rfl := Option.some.inj H
  go_enter Try.func55, Try.ntmps55
  go_wp2_with (first | ((with_reducible refine gate_dst (N := 2) rfl ?_); refine box_event ?hg (N := 2) ?hd (cs := #[.slice A0_0 l0_0.length c0_0, .slice A0_1 l0_1.length c0_1]) (t := 81) ?hr ?_; (case hd => rfl); (case hg => rfl); (case hr => first | (go_simp; done) | (go_simp; rfl)); intro gb916 hg w6 hbox hb; have n0_ := Aside0.mk (below_step bel_ hb); have n1_ := Aside0.mk (hbox); have n2_ := Aside0.mk ((by rw [hg]; exact (below_size bel_) : w.heap.size ≤ gb916)); have n3_ := Aside0.mk ((by rw [hg]; exact (below_size bel_) : w.heap.size ≤ gb916)); clear HB; have HB := n0_; have BK916 := n1_; have GW916 := n2_; have GE916 := n3_; clear n0_ n1_ n2_ n3_; clear hb hbox hg) | ((with_reducible refine gate_dst (N := 3) rfl ?_); refine box_event ?hg (N := 3) ?hd (cs := #[.slice A1_0 l1_0.length c1_0, .slice A1_1 l1_1.length c1_1]) (t := 81) ?hr ?_; (case hd => rfl); (case hg => rfl); (case hr => first | (go_simp; done) | (go_simp; rfl)); intro gb917 hg w7 hbox hb; have n0_ := Aside0.mk (blk_below (g := gb916) (o := .cells #[.slice A0_0 l0_0.length c0_0, .slice A0_1 l0_1.length c0_1] 81 (0, 0)) (bk_ BK916) hb); have n1_ := Aside0.mk (below_step bel_ hb); have n2_ := Aside0.mk (hbox); have n3_ := Aside0.mk ((by rw [hg]; exact (below_size bel_) : w.heap.size ≤ gb917)); have n4_ := Aside0.mk ((by rw [hg]; exact (below_size bel_) : w.heap.size ≤ gb917)); have n5_ := Aside0.mk ((by rw [hg]; exact Nat.ne_of_lt (blk_lt (g := gb916) (o := .cells #[.slice A0_0 l0_0.length c0_0, .slice A0_1 l0_1.length c0_1] 81 (0, 0)) (bk_ BK916)) : gb916 ≠ gb917)); have n6_ := Aside0.mk ((by rw [hg]; exact Nat.ne_of_gt (blk_lt (g := gb916) (o := .cells #[.slice A0_0 l0_0.length c0_0, .slice A0_1 l0_1.length c0_1] 81 (0, 0)) (bk_ BK916)) : gb917 ≠ gb916)); clear BK916; clear HB; have BK916 := n0_; have HB := n1_; have BK917 := n2_; have GW917 := n3_; have GE917 := n4_; have NB916_917 := n5_; have NB917_916 := n6_; clear n0_ n1_ n2_ n3_ n4_ n5_ n6_; clear hb hbox hg; have hnb8 := NB916_917.out; have hnc8 := NB917_916.out; have hcz9_0 : w7.cell? ⟨gb916, 0, none⟩ = some (.slice A0_0 l0_0.length c0_0) := (blk_cell BK916.out 0).trans rfl; have hcz9_1 : w7.cell? ⟨gb916, 1, none⟩ = some (.slice A0_1 l0_1.length c0_1) := (blk_cell BK916.out 1).trans rfl; have hfz9_0 := blk_frozen BK916.out 0; have hfz9_1 := blk_frozen BK916.out 1; have hcz10_0 : w7.cell? ⟨gb917, 0, none⟩ = some (.slice A1_0 l1_0.length c1_0) := (blk_cell BK917.out 0).trans rfl; have hcz10_1 : w7.cell? ⟨gb917, 1, none⟩ = some (.slice A1_1 l1_1.length c1_1) := (blk_cell BK917.out 1).trans rfl; have hfz10_0 := blk_frozen BK917.out 0; have hfz10_1 := blk_frozen BK917.out 1) | ((with_reducible refine gate_callee (f := 96) rfl ?_); refine goesL_ (some 7) rfl rfl Try.func96 (by kernel_rfl) rfl #[.agg #[.slice A0_0 l0_0.length c0_0, .slice A0_1 l0_1.length c0_1], .agg #[.slice A1_0 l1_0.length c1_0, .slice A1_1 l1_1.length c1_1]] rfl (by (try simp only [List.map_toArray, List.map_cons, List.map_nil]); first | done | rfl | (simp only [List.length_drop, List.length_take]; rfl)) ?_; (with_reducible refine (sequentref04_Extends.calls k _ _ l0_0 _ _ l0_1 _ _ l1_0 _ _ l1_1 true _ ?side1 ?side2 ?side3 ?side4 ?side5 ?side6 ?side7 ?side8 A3.out).mono ?_); (case side1 => repeat (first | exact (Kd.C_below HR0_0.out HB.out) | (with_reducible refine Kd.C_alloc ?_ _) | (with_reducible refine Kd.C_drewN ?_ _) | (with_reducible refine Kd.C_drew ?_))); (case side2 => exact HC0_0.out); (case side3 => repeat (first | exact (Kd.C_below HR0_1.out HB.out) | (with_reducible refine Kd.C_alloc ?_ _) | (with_reducible refine Kd.C_drewN ?_ _) | (with_reducible refine Kd.C_drew ?_))); (case side4 => exact HC0_1.out); (case side5 => repeat (first | exact (Kd.C_below HR1_0.out HB.out) | (with_reducible refine Kd.C_alloc ?_ _) | (with_reducible refine Kd.C_drewN ?_ _) | (with_reducible refine Kd.C_drew ?_))); (case side6 => exact HC1_0.out); (case side7 => repeat (first | exact (Kd.C_below HR1_1.out HB.out) | (with_reducible refine Kd.C_alloc ?_ _) | (with_reducible refine Kd.C_drewN ?_ _) | (with_reducible refine Kd.C_drew ?_))); (case side8 => exact HC1_1.out); rintro e w11 ⟨rfl, hb⟩; refine ⟨_, rfl, ?_⟩; have n0_ := Aside0.mk (blk_below (g := gb916) (o := .cells #[.slice A0_0 l0_0.length c0_0, .slice A0_1 l0_1.length c0_1] 81 (0, 0)) (bk_ BK916) hb); have n1_ := Aside0.mk (blk_below (g := gb917) (o := .cells #[.slice A1_0 l1_0.length c1_0, .slice A1_1 l1_1.length c1_1] 81 (0, 0)) (bk_ BK917) hb); have n2_ := Aside0.mk (below_step bel_ hb); clear BK916; clear BK917; clear HB; have BK916 := n0_; have BK917 := n1_; have HB := n2_; clear n0_ n1_ n2_; (try clear hb); (try clear hb2); (try clear hk); (try clear hi); have hcz12_0 : w11.cell? ⟨gb917, 0, none⟩ = some (.slice A1_0 l1_0.length c1_0) := (blk_cell BK917.out 0).trans rfl; have hcz12_1 : w11.cell? ⟨gb917, 1, none⟩ = some (.slice A1_1 l1_1.length c1_1) := (blk_cell BK917.out 1).trans rfl; have hfz12_0 := blk_frozen BK917.out 0; have hfz12_1 := blk_frozen BK917.out 1; have hcz13_0 : w11.cell? ⟨gb916, 0, none⟩ = some (.slice A0_0 l0_0.length c0_0) := (blk_cell BK916.out 0).trans rfl; have hcz13_1 : w11.cell? ⟨gb916, 1, none⟩ = some (.slice A0_1 l0_1.length c0_1) := (blk_cell BK916.out 1).trans rfl; have hfz13_0 := blk_frozen BK916.out 0; have hfz13_1 := blk_frozen BK916.out 1) | (go_at_call 96; (with_reducible refine (sequentref04_Extends.calls k _ _ l1_0 _ _ l1_1 _ _ l0_0 _ _ l0_1 t919 _ ?side1 ?side2 ?side3 ?side4 ?side5 ?side6 ?side7 ?side8 A5.out).mono ?_); (case side1 => repeat (first | exact (Kd.C_below HR1_0.out HB.out) | (with_reducible refine Kd.C_alloc ?_ _) | (with_reducible refine Kd.C_drewN ?_ _) | (with_reducible refine Kd.C_drew ?_))); (case side2 => exact HC1_0.out); (case side3 => repeat (first | exact (Kd.C_below HR1_1.out HB.out) | (with_reducible refine Kd.C_alloc ?_ _) | (with_reducible refine Kd.C_drewN ?_ _) | (with_reducible refine Kd.C_drew ?_))); (case side4 => exact HC1_1.out); (case side5 => repeat (first | exact (Kd.C_below HR0_0.out HB.out) | (with_reducible refine Kd.C_alloc ?_ _) | (with_reducible refine Kd.C_drewN ?_ _) | (with_reducible refine Kd.C_drew ?_))); (case side6 => exact HC0_0.out); (case side7 => repeat (first | exact (Kd.C_below HR0_1.out HB.out) | (with_reducible refine Kd.C_alloc ?_ _) | (with_reducible refine Kd.C_drewN ?_ _) | (with_reducible refine Kd.C_drew ?_))); (case side8 => exact HC0_1.out); rintro e w14 ⟨rfl, hb⟩; have n0_ := Aside0.mk (blk_below (g := gb916) (o := .cells #[.slice A0_0 l0_0.length c0_0, .slice A0_1 l0_1.length c0_1] 81 (0, 0)) (bk_ BK916) hb); have n1_ := Aside0.mk (blk_below (g := gb917) (o := .cells #[.slice A1_0 l1_0.length c1_0, .slice A1_1 l1_1.length c1_1] 81 (0, 0)) (bk_ BK917) hb); have n2_ := Aside0.mk (below_step bel_ hb); clear BK916; clear BK917; clear HB; have BK916 := n0_; have BK917 := n1_; have HB := n2_; clear n0_ n1_ n2_; (try clear hb); (try clear hb2); (try clear hk); (try clear hi)))
  go_ret
  exact ⟨by first | rfl | (simp [errW_none, errW_some] <;> rfl) | (simp [*, errW_none, errW_some] <;> rfl), bel_⟩
 ·replace c4 := Bool.eq_false_iff.mpr c4
  subst c4
  have H1 : (some false) = some r := by rw [if_neg (show ¬ (false = true) by decide)] at H; exact H
  clear H
  have H := H1
  clear H1
  obtain rfl := Option.some.inj H
  go_enter Try.func55, Try.ntmps55
  go_wp2_with (first | ((with_reducible refine gate_dst (N := 2) rfl ?_); refine box_event ?hg (N := 2) ?hd (cs := #[.slice A0_0 l0_0.length c0_0, .slice A0_1 l0_1.length c0_1]) (t := 81) ?hr ?_; (case hd => rfl); (case hg => rfl); (case hr => first | (go_simp; done) | (go_simp; rfl)); intro gb916 hg w15 hbox hb; have n0_ := Aside0.mk (below_step bel_ hb); have n1_ := Aside0.mk (hbox); have n2_ := Aside0.mk ((by rw [hg]; exact (below_size bel_) : w.heap.size ≤ gb916)); have n3_ := Aside0.mk ((by rw [hg]; exact (below_size bel_) : w.heap.size ≤ gb916)); clear HB; have HB := n0_; have BK916 := n1_; have GW916 := n2_; have GE916 := n3_; clear n0_ n1_ n2_ n3_; clear hb hbox hg) | ((with_reducible refine gate_dst (N := 3) rfl ?_); refine box_event ?hg (N := 3) ?hd (cs := #[.slice A1_0 l1_0.length c1_0, .slice A1_1 l1_1.length c1_1]) (t := 81) ?hr ?_; (case hd => rfl); (case hg => rfl); (case hr => first | (go_simp; done) | (go_simp; rfl)); intro gb917 hg w16 hbox hb; have n0_ := Aside0.mk (blk_below (g := gb916) (o := .cells #[.slice A0_0 l0_0.length c0_0, .slice A0_1 l0_1.length c0_1] 81 (0, 0)) (bk_ BK916) hb); have n1_ := Aside0.mk (below_step bel_ hb); have n2_ := Aside0.mk (hbox); have n3_ := Aside0.mk ((by rw [hg]; exact (below_size bel_) : w.heap.size ≤ gb917)); have n4_ := Aside0.mk ((by rw [hg]; exact (below_size bel_) : w.heap.size ≤ gb917)); have n5_ := Aside0.mk ((by rw [hg]; exact Nat.ne_of_lt (blk_lt (g := gb916) (o := .cells #[.slice A0_0 l0_0.length c0_0, .slice A0_1 l0_1.length c0_1] 81 (0, 0)) (bk_ BK916)) : gb916 ≠ gb917)); have n6_ := Aside0.mk ((by rw [hg]; exact Nat.ne_of_gt (blk_lt (g := gb916) (o := .cells #[.slice A0_0 l0_0.length c0_0, .slice A0_1 l0_1.length c0_1] 81 (0, 0)) (bk_ BK916)) : gb917 ≠ gb916)); clear BK916; clear HB; have BK916 := n0_; have HB := n1_; have BK917 := n2_; have GW917 := n3_; have GE917 := n4_; have NB916_917 := n5_; have NB917_916 := n6_; clear n0_ n1_ n2_ n3_ n4_ n5_ n6_; clear hb hbox hg; have hnb17 := NB916_917.out; have hnc17 := NB917_916.out; have hcz18_0 : w16.cell? ⟨gb916, 0, none⟩ = some (.slice A0_0 l0_0.length c0_0) := (blk_cell BK916.out 0).trans rfl; have hcz18_1 : w16.cell? ⟨gb916, 1, none⟩ = some (.slice A0_1 l0_1.length c0_1) := (blk_cell BK916.out 1).trans rfl; have hfz18_0 := blk_frozen BK916.out 0; have hfz18_1 := blk_frozen BK916.out 1; have hcz19_0 : w16.cell? ⟨gb917, 0, none⟩ = some (.slice A1_0 l1_0.length c1_0) := (blk_cell BK917.out 0).trans rfl; have hcz19_1 : w16.cell? ⟨gb917, 1, none⟩ = some (.slice A1_1 l1_1.length c1_1) := (blk_cell BK917.out 1).trans rfl; have hfz19_0 := blk_frozen BK917.out 0; have hfz19_1 := blk_frozen BK917.out 1) | ((with_reducible refine gate_callee (f := 96) rfl ?_); refine goesL_ (some 7) rfl rfl Try.func96 (by kernel_rfl) rfl #[.agg #[.slice A0_0 l0_0.length c0_0, .slice A0_1 l0_1.length c0_1], .agg #[.slice A1_0 l1_0.length c1_0, .slice A1_1 l1_1.length c1_1]] rfl (by (try simp only [List.map_toArray, List.map_cons, List.map_nil]); first | done | rfl | (simp only [List.length_drop, List.length_take]; rfl)) ?_; (with_reducible refine (sequentref04_Extends.calls k _ _ l0_0 _ _ l0_1 _ _ l1_0 _ _ l1_1 false _ ?side1 ?side2 ?side3 ?side4 ?side5 ?side6 ?side7 ?side8 A3.out).mono ?_); (case side1 => repeat (first | exact (Kd.C_below HR0_0.out HB.out) | (with_reducible refine Kd.C_alloc ?_ _) | (with_reducible refine Kd.C_drewN ?_ _) | (with_reducible refine Kd.C_drew ?_))); (case side2 => exact HC0_0.out); (case side3 => repeat (first | exact (Kd.C_below HR0_1.out HB.out) | (with_reducible refine Kd.C_alloc ?_ _) | (with_reducible refine Kd.C_drewN ?_ _) | (with_reducible refine Kd.C_drew ?_))); (case side4 => exact HC0_1.out); (case side5 => repeat (first | exact (Kd.C_below HR1_0.out HB.out) | (with_reducible refine Kd.C_alloc ?_ _) | (with_reducible refine Kd.C_drewN ?_ _) | (with_reducible refine Kd.C_drew ?_))); (case side6 => exact HC1_0.out); (case side7 => repeat (first | exact (Kd.C_below HR1_1.out HB.out) | (with_reducible refine Kd.C_alloc ?_ _) | (with_reducible refine Kd.C_drewN ?_ _) | (with_reducible refine Kd.C_drew ?_))); (case side8 => exact HC1_1.out); rintro e w20 ⟨rfl, hb⟩; refine ⟨_, rfl, ?_⟩; have n0_ := Aside0.mk (blk_below (g := gb916) (o := .cells #[.slice A0_0 l0_0.length c0_0, .slice A0_1 l0_1.length c0_1] 81 (0, 0)) (bk_ BK916) hb); have n1_ := Aside0.mk (blk_below (g := gb917) (o := .cells #[.slice A1_0 l1_0.length c1_0, .slice A1_1 l1_1.length c1_1] 81 (0, 0)) (bk_ BK917) hb); have n2_ := Aside0.mk (below_step bel_ hb); clear BK916; clear BK917; clear HB; have BK916 := n0_; have BK917 := n1_; have HB := n2_; clear n0_ n1_ n2_; (try clear hb); (try clear hb2); (try clear hk); (try clear hi)))
  go_ret
  exact ⟨by first | rfl | (simp [errW_none, errW_some] <;> rfl) | (simp [*, errW_none, errW_some] <;> rfl), bel_⟩

end Go.Proofs.Ytgnklkmifcmlhaa.Q
