/- Proved here: parts of the proof of a given statement (HRowSignatureTells): contracts of the functions that it reaches, what they answer, and in the last text the statement itself. Conditions: those that each theorem names. -/
import Derived.Test.YtecplbgdalchdaaZSTX3
import Derived.Test.YtecplbgdalchdaaZSTX12
-- written by a program of this session (wip/tools/myprint.py) out of the translation
namespace Go.Proofs.Ytecplbgdalchdaa.Q
open Go.RowKit Go.Proofs.YtecplbgdalchdaaW.PrintWords Go.Proofs.YtecplbgdalchdaaW.PrintLast Go.Proofs.YtecplbgdalchdaaW.PrintMore
attribute [local go_sem] max2_int min2_int max_two min_two max_three min_three max_four min_four   -- for this text's walks alone
set_option linter.unusedVariables false
set_option linter.unusedSimpArgs false

attribute [local go_sem high] eqA106
/-! ### sequentref04_Extends: function 80 -/
mutual
def sequentref04_Extends.j0 : Nat → Bool → List (S106) → List (S108) → List (S106) → List (S108) → Option (Bool)
 | 0, _, _, _, _, _ => none
 | k + 1, x22, x1057000, x1057001, x1058000, x1058001 => if x22 = true then (some false) else (sequentref04_Extends.l0 k 0 x1057000 x1057001 x1058000 x1058001)
def sequentref04_Extends.l0 : Nat → Int → List (S106) → List (S108) → List (S106) → List (S108) → Option (Bool)
 | 0, _, _, _, _, _ => none
 | k + 1, x5, x1057000, x1057001, x1058000, x1058001 => if x5 < (x1058000.length : Int) then (if 0 ≤ x5 then (if x5 < (x1057000.length : Int) then (if (!((((rd_T106 x1057000 x5).f0).toList) == (((rd_T106 x1058000 x5).f0).toList)) || (!(((rd_T106 x1057000 x5).f1) == ((rd_T106 x1058000 x5).f1)))) = true then (some false) else (sequentref04_Extends.l0 k (wrap64 (x5 + 1)) x1057000 x1057001 x1058000 x1058001)) else (none)) else (none)) else (sequentref04_Extends.l1 k 0 x1057000 x1057001 x1058000 x1058001)
def sequentref04_Extends.l1 : Nat → Int → List (S106) → List (S108) → List (S106) → List (S108) → Option (Bool)
 | 0, _, _, _, _, _ => none
 | k + 1, x6, x1057000, x1057001, x1058000, x1058001 => if x6 < (x1058001.length : Int) then (if 0 ≤ x6 then (if x6 < (x1057001.length : Int) then (if ((rd_T108 x1057001 x6).f0).toList = ((rd_T108 x1058001 x6).f0).toList then ((sequentref01_Same.f k ((rd_T108 x1057001 x6).f1.f0) ((rd_T108 x1057001 x6).f1.f1) ((rd_T108 x1057001 x6).f1.f2) ((rd_T108 x1058001 x6).f1.f0) ((rd_T108 x1058001 x6).f1.f1) ((rd_T108 x1058001 x6).f1.f2)).bind fun t1064 => (if t1064 = true then (sequentref04_Extends.l1 k (wrap64 (x6 + 1)) x1057000 x1057001 x1058000 x1058001) else (some false))) else (some false)) else (none)) else (none)) else (some true)
end
def sequentref04_Extends.f (k : Nat) (l0_0 : List (S106)) (l0_1 : List (S108)) (l1_0 : List (S106)) (l1_1 : List (S108)) : Option (Bool) := if (l0_0.length : Int) < (l1_0.length : Int) then (sequentref04_Extends.j0 k true l0_0 l0_1 l1_0 l1_1) else (sequentref04_Extends.j0 k (decide ((l0_1.length : Int) < (l1_1.length : Int))) l0_0 l0_1 l1_0 l1_1)
def sequentref04_Extends.T6 : Bool × List (List Nat × List Nat) := (true, [([], []), ([0], [0]), ([], []), ([1, 2], [1, 2]), ([3], [3]), ([], []), ([5], [5]), ([], []), ([6, 7], [6, 7]), ([8], [8]), ([4, 9], [4, 9])])
def sequentref04_Extends.B6 : List Nat := [0, 1, 0, 7, 15, 0, 32, 0, 224, 480, 1023]
theorem sequentref04_Extends.tab6 : rtab .any (opsOf Try.f80 6) = sequentref04_Extends.T6 := by kernel_rfl
theorem sequentref04_Extends.bits6 : waitsOk sequentref04_Extends.T6.2 sequentref04_Extends.B6 = true := by kernel_rfl
def sequentref04_Extends.T11 : Bool × List (List Nat × List Nat) := (true, [([], []), ([0], [0]), ([], []), ([1, 2], [1, 2]), ([3], [3]), ([4], [4]), ([], []), ([6], [6]), ([], []), ([7, 8], [7, 8]), ([9], [9]), ([10], [10]), ([5, 11], [5, 11]), ([12], [12]), ([13], [13]), ([14, 13], [13, 14]), ([13], [13]), ([15, 16, 13], [13, 15, 16]), ([17, 13], [13, 17]), ([18, 13], [13, 18]), ([13], [13]), ([20, 13], [13, 20]), ([13], [13]), ([21, 22, 13], [13, 21, 22]), ([23, 13], [13, 23]), ([24, 13], [13, 24]), ([19, 25, 13, 13], [13, 19, 25]), ([26, 13], [13, 26]), ([13, 27], [13, 27])])
def sequentref04_Extends.B11 : List Nat := [0, 1, 0, 7, 15, 31, 0, 64, 0, 448, 960, 1984, 4095, 8191, 16383, 32767, 16383, 131071, 262143, 524287, 16383, 1064959, 16383, 7356415, 15745023, 32522239, 67108863, 134217727, 268435455]
theorem sequentref04_Extends.tab11 : rtab .any (opsOf Try.f80 11) = sequentref04_Extends.T11 := by kernel_rfl
theorem sequentref04_Extends.bits11 : waitsOk sequentref04_Extends.T11.2 sequentref04_Extends.B11 = true := by kernel_rfl
set_option maxHeartbeats 8000000 in
set_option maxRecDepth 100000 in
theorem sequentref04_Extends.calls (k : Nat) (A0_0 : Option Addr) (c0_0 : Nat) (l0_0 : List (S106)) (A0_1 : Option Addr) (c0_1 : Nat) (l0_1 : List (S108)) (A1_0 : Option Addr) (c1_0 : Nat) (l1_0 : List (S106)) (A1_1 : Option Addr) (c1_1 : Nat) (l1_1 : List (S108)) (r : Bool) (w : World) (hr0_0 : Kd.C k106 w A0_0 l0_0.length l0_0) (hc0_0 : l0_0.length ≤ c0_0) (hr0_1 : Kd.C k108 w A0_1 l0_1.length l0_1) (hc0_1 : l0_1.length ≤ c0_1) (hr1_0 : Kd.C k106 w A1_0 l1_0.length l1_0) (hc1_0 : l1_0.length ≤ c1_0) (hr1_1 : Kd.C k108 w A1_1 l1_1.length l1_1) (hc1_1 : l1_1.length ≤ c1_1) (h : sequentref04_Extends.f k l0_0 l0_1 l1_0 l1_1 = some r) :
 Calls Try.prog 80 #[.agg #[.slice A0_0 l0_0.length c0_0, .slice A0_1 l0_1.length c0_1], .agg #[.slice A1_0 l1_0.length c1_0, .slice A1_1 l1_1.length c1_1]] w fun e w' => e = .returned (.bool r) ∧ Below w.heap.size w w' := by
 have hu94 := Try.underlying94
 have hu106 := Try.underlying106
 have hu24 := Try.underlying24
 have HR0_0 := Aside0.mk hr0_0
 have HC0_0 := Aside0.mk hc0_0
 clear hr0_0 hc0_0
 have HR0_1 := Aside0.mk hr0_1
 have HC0_1 := Aside0.mk hc0_1
 clear hr0_1 hc0_1
 have HR1_0 := Aside0.mk hr1_0
 have HC1_0 := Aside0.mk hc1_0
 clear hr1_0 hc1_0
 have HR1_1 := Aside0.mk hr1_1
 have HC1_1 := Aside0.mk hc1_1
 clear hr1_1 hc1_1
 have HB := Aside0.mk (Below.refl w.heap.size w)
 have H : (if (l0_0.length : Int) < (l1_0.length : Int) then (sequentref04_Extends.j0 k true l0_0 l0_1 l1_0 l1_1) else (sequentref04_Extends.j0 k (decide ((l0_1.length : Int) < (l1_1.length : Int))) l0_0 l0_1 l1_0 l1_1)) = some r := h
 clear h
 have HC3 := Aside0.mk H
 clear H
 go_enter Try.func80, Try.ntmps80
 go_upto_region 1 with (first | ((with_reducible refine gate_dst (N := 2) rfl ?_); (try (refine gate_guard (by rfl) ?_; dsimp only)); refine box_event ?hg (N := 2) ?hd (cs := #[.slice A0_0 l0_0.length c0_0, .slice A0_1 l0_1.length c0_1]) (t := 94) ?hr ?_; (case hd => rfl); (case hg => rfl); (case hr => first | (go_simp; done) | (go_simp; rfl)); intro gb1056 hg w4 hbox hb; have n0_ := Aside0.mk (below_step bel_ hb); have n1_ := Aside0.mk (hbox); have n2_ := Aside0.mk ((by rw [hg]; exact (below_size bel_) : w.heap.size ≤ gb1056)); have n3_ := Aside0.mk ((by rw [hg]; exact (below_size bel_) : w.heap.size ≤ gb1056)); clear HB; have HB := n0_; have BK1056 := n1_; have GW1056 := n2_; have GE1056 := n3_; clear n0_ n1_ n2_ n3_; clear hb hbox hg) | ((with_reducible refine gate_dst (N := 3) rfl ?_); (try (refine gate_guard (by rfl) ?_; dsimp only)); refine box_event ?hg (N := 3) ?hd (cs := #[.slice A1_0 l1_0.length c1_0, .slice A1_1 l1_1.length c1_1]) (t := 94) ?hr ?_; (case hd => rfl); (case hg => rfl); (case hr => first | (go_simp; done) | (go_simp; rfl)); intro gb1057 hg w5 hbox hb; have n0_ := Aside0.mk (blk_below (g := gb1056) (o := .cells #[.slice A0_0 l0_0.length c0_0, .slice A0_1 l0_1.length c0_1] 94 (0, 0)) (bk_ BK1056) hb); have n1_ := Aside0.mk (below_step bel_ hb); have n2_ := Aside0.mk (hbox); have n3_ := Aside0.mk ((by rw [hg]; exact (below_size bel_) : w.heap.size ≤ gb1057)); have n4_ := Aside0.mk ((by rw [hg]; exact (below_size bel_) : w.heap.size ≤ gb1057)); have n5_ := Aside0.mk ((by rw [hg]; exact Nat.ne_of_lt (blk_lt (g := gb1056) (o := .cells #[.slice A0_0 l0_0.length c0_0, .slice A0_1 l0_1.length c0_1] 94 (0, 0)) (bk_ BK1056)) : gb1056 ≠ gb1057)); have n6_ := Aside0.mk ((by rw [hg]; exact Nat.ne_of_gt (blk_lt (g := gb1056) (o := .cells #[.slice A0_0 l0_0.length c0_0, .slice A0_1 l0_1.length c0_1] 94 (0, 0)) (bk_ BK1056)) : gb1057 ≠ gb1056)); clear BK1056; clear HB; have BK1056 := n0_; have HB := n1_; have BK1057 := n2_; have GW1057 := n3_; have GE1057 := n4_; have NB1056_1057 := n5_; have NB1057_1056 := n6_; clear n0_ n1_ n2_ n3_ n4_ n5_ n6_; clear hb hbox hg))
 (try simp only [Act.put, List.setIfInBounds_toArray, List.set_cons_zero, List.set_cons_succ])
 go_cut [22] (fun v22 wc => ∃ (kq : Nat) (x22_2 : Bool), v22 = .bool x22_2 ∧ Aside0 (sequentref04_Extends.j0 kq x22_2 l0_0 l0_1 l1_0 l1_1 = some r) ∧ Aside0 (kq ≤ k) ∧ Aside0 (wc.heap[gb1056]? = some (.cells #[(.slice A0_0 l0_0.length c0_0), (.slice A0_1 l0_1.length c0_1)] 94 (0, 0))) ∧ Aside0 (wc.heap[gb1057]? = some (.cells #[(.slice A1_0 l1_0.length c1_0), (.slice A1_1 l1_1.length c1_1)] 94 (0, 0))) ∧ Aside0 (Below w.heap.size w wc))
 case first =>
  have H := HC3.out
  clear HC3
  by_cases c6 : (l0_0.length : Int) < (l1_0.length : Int)
  ·rw [if_pos c6] at H
   have c6b0 : decide ((l0_0.length : Int) < (l1_0.length : Int)) = true := decide_eq_true c6
   have c6b1 : decide (l0_0.length < l1_0.length) = true := decide_eq_true (Int.ofNat_lt.mp c6)
   clear c6
   (first | rw [c6b0] | (simp only [i64_w, i32_w]; rw [c6b0]) | skip)
   have H' := Aside0.mk H
   clear H
   have hnb7 := NB1056_1057.out
   have hnc7 := NB1057_1056.out
   have hcz8_0 : w5.cell? ⟨gb1056, 0, none⟩ = some (.slice A0_0 l0_0.length c0_0) := (blk_cell BK1056.out 0).trans rfl
   have hcz8_1 : w5.cell? ⟨gb1056, 1, none⟩ = some (.slice A0_1 l0_1.length c0_1) := (blk_cell BK1056.out 1).trans rfl
   have hfz8_0 := blk_frozen BK1056.out 0
   have hfz8_1 := blk_frozen BK1056.out 1
   have hcz9_0 : w5.cell? ⟨gb1057, 0, none⟩ = some (.slice A1_0 l1_0.length c1_0) := (blk_cell BK1057.out 0).trans rfl
   have hcz9_1 : w5.cell? ⟨gb1057, 1, none⟩ = some (.slice A1_1 l1_1.length c1_1) := (blk_cell BK1057.out 1).trans rfl
   have hfz9_0 := blk_frozen BK1057.out 0
   have hfz9_1 := blk_frozen BK1057.out 1
   go_wp2
   go_meet
   case rel => exact ⟨_, (true), (by first | rfl | (simp; done) | (simp [*]; done)), H', ⟨by first | omega | exact Nat.le_refl _⟩, ⟨bk_ BK1056⟩, ⟨bk_ BK1057⟩, ⟨bel_⟩⟩
  ·rw [if_neg c6] at H
   have c6b0 : decide ((l0_0.length : Int) < (l1_0.length : Int)) = false := decide_eq_false c6
   have c6b1 : decide (l0_0.length < l1_0.length) = false := decide_eq_false (fun h => c6 (Int.ofNat_lt.mpr h))
   clear c6
   (first | rw [c6b0] | (simp only [i64_w, i32_w]; rw [c6b0]) | skip)
   have H' := Aside0.mk H
   clear H
   have hnb10 := NB1056_1057.out
   have hnc10 := NB1057_1056.out
   have hcz11_0 : w5.cell? ⟨gb1056, 0, none⟩ = some (.slice A0_0 l0_0.length c0_0) := (blk_cell BK1056.out 0).trans rfl
   have hcz11_1 : w5.cell? ⟨gb1056, 1, none⟩ = some (.slice A0_1 l0_1.length c0_1) := (blk_cell BK1056.out 1).trans rfl
   have hfz11_0 := blk_frozen BK1056.out 0
   have hfz11_1 := blk_frozen BK1056.out 1
   have hcz12_0 : w5.cell? ⟨gb1057, 0, none⟩ = some (.slice A1_0 l1_0.length c1_0) := (blk_cell BK1057.out 0).trans rfl
   have hcz12_1 : w5.cell? ⟨gb1057, 1, none⟩ = some (.slice A1_1 l1_1.length c1_1) := (blk_cell BK1057.out 1).trans rfl
   have hfz12_0 := blk_frozen BK1057.out 0
   have hfz12_1 := blk_frozen BK1057.out 1
   go_wp2
   go_meet
   case rel => exact ⟨_, (decide ((l0_1.length : Int) < (l1_1.length : Int))), (by first | rfl | (simp; done) | (simp [*]; done)), H', ⟨by first | omega | exact Nat.le_refl _⟩, ⟨bk_ BK1056⟩, ⟨bk_ BK1057⟩, ⟨bel_⟩⟩
 case rest =>
  clear HC3
  try clear c1
  try clear p2
  try clear c6
  try clear c6b0
  try clear c6b1
  try clear c7
  try clear c8
  try clear c10
  try clear hcz11_0
  try clear hcz11_1
  try clear hcz12_0
  try clear hcz12_1
  try clear hcz8_0
  try clear hcz8_1
  try clear hcz9_0
  try clear hcz9_1
  try clear hfz11_0
  try clear hfz11_1
  try clear hfz12_0
  try clear hfz12_1
  try clear hfz8_0
  try clear hfz8_1
  try clear hfz9_0
  try clear hfz9_1
  obtain ⟨kq, x22_2, rfl, HA, HJ2, BK1056, BK1057, HB⟩ := hcut
  cases kq with
  | zero => exact absurd HA.out (by simp [sequentref04_Extends.j0])
  | succ kj2 =>
   have H := HA.out
   clear HA
   simp only [sequentref04_Extends.j0] at H
   by_cases c13 : x22_2 = true
   ·subst c13
    have H1 : (some false) = some r := by rw [if_pos rfl] at H; exact H
    clear H
    have H := H1
    clear H1
    obtain rfl := Option.some.inj H
    go_wp2
    go_ret
    exact ⟨by first | rfl | (simp [errW_none, errW_some] <;> rfl) | (simp [*, errW_none, errW_some] <;> rfl), bel_⟩
   ·replace c13 := Bool.eq_false_iff.mpr c13
    subst c13
    have H1 : (sequentref04_Extends.l0 kj2 0 l0_0 l0_1 l1_0 l1_1) = some r := by rw [if_neg (show ¬ (false = true) by decide)] at H; exact H
    clear H
    have H := H1
    clear H1
    have H' := Aside0.mk H
    clear H
    go_wp2
    go_loopg [5] kj2 (fun kq v5 w' => ∃ (x5_2 : Int), v5 = .int .i64 x5_2 ∧ Aside0 (sequentref04_Extends.l0 kq x5_2 l0_0 l0_1 l1_0 l1_1 = some r) ∧ Aside0 (kq ≤ kj2) ∧ Aside0 (w'.heap[gb1056]? = some (.cells #[(.slice A0_0 l0_0.length c0_0), (.slice A0_1 l0_1.length c0_1)] 94 (0, 0))) ∧ Aside0 (w'.heap[gb1057]? = some (.cells #[(.slice A1_0 l1_0.length c1_0), (.slice A1_1 l1_1.length c1_1)] 94 (0, 0))) ∧ Aside0 (Below w.heap.size w w'))
    case atStart => exact ⟨(0), (by first | rfl | (simp; done) | (simp [*]; done)), H', ⟨Nat.le_refl _⟩, ⟨bk_ BK1056⟩, ⟨bk_ BK1057⟩, ⟨bel_⟩⟩
    case round =>
     clear H'
     try clear c1
     try clear p2
     try clear c6
     try clear c6b0
     try clear c6b1
     try clear c7
     try clear c8
     try clear c10
     try clear c13
     try clear hcz11_0
     try clear hcz11_1
     try clear hcz12_0
     try clear hcz12_1
     try clear hcz8_0
     try clear hcz8_1
     try clear hcz9_0
     try clear hcz9_1
     try clear hfz11_0
     try clear hfz11_1
     try clear hfz12_0
     try clear hfz12_1
     try clear hfz8_0
     try clear hfz8_1
     try clear hfz9_0
     try clear hfz9_1
     try clear p2
     obtain ⟨x5_2, rfl, HA, HK2, BK1056, BK1057, HB⟩ := hrel
     cases gk with
     | zero => exact absurd HA.out (by simp [sequentref04_Extends.l0])
     | succ k2 =>
      have H := HA.out
      clear HA
      simp only [sequentref04_Extends.l0] at H
      by_cases c14 : x5_2 < (l1_0.length : Int)
      ·rw [if_pos c14] at H
       have c14b0 : decide (x5_2 < (l1_0.length : Int)) = true := decide_eq_true c14
       clear c14
       by_cases c15 : 0 ≤ x5_2
       ·rw [if_pos c15] at H
        have c15b0 : decide (0 ≤ x5_2) = true := decide_eq_true c15
        clear c15
        by_cases c16 : x5_2 < (l0_0.length : Int)
        ·rw [if_pos c16] at H
         have c16b0 : decide (x5_2 < (l0_0.length : Int)) = true := decide_eq_true c16
         clear c16
         by_cases c17 : (!((((rd_T106 l0_0 x5_2).f0).toList) == (((rd_T106 l1_0 x5_2).f0).toList)) || (!(((rd_T106 l0_0 x5_2).f1) == ((rd_T106 l1_0 x5_2).f1)))) = true
         ·rw [if_pos c17] at H
          have c17b0 : (!((((rd_T106 l0_0 x5_2).f0).toList) == (((rd_T106 l1_0 x5_2).f0).toList)) || (!(((rd_T106 l0_0 x5_2).f1) == ((rd_T106 l1_0 x5_2).f1)))) = true := c17
          clear c17
          obtain rfl := Option.some.inj H
          have hnb18 := NB1057_1056.out
          have hnc18 := NB1056_1057.out
          have hcz19_0 : wr.cell? ⟨gb1057, 0, none⟩ = some (.slice A1_0 l1_0.length c1_0) := (blk_cell BK1057.out 0).trans rfl
          have hcz19_1 : wr.cell? ⟨gb1057, 1, none⟩ = some (.slice A1_1 l1_1.length c1_1) := (blk_cell BK1057.out 1).trans rfl
          have hfz19_0 := blk_frozen BK1057.out 0
          have hfz19_1 := blk_frozen BK1057.out 1
          try go_wp2
          have n0_ := Aside0.mk (blk_drew BK1056.out)
          have n1_ := Aside0.mk (blk_drew BK1057.out)
          have n2_ := Aside0.mk (below_drew1 HB.out)
          clear BK1056
          clear BK1057
          clear HB
          have BK1056 := n0_
          have BK1057 := n1_
          have HB := n2_
          clear n0_ n1_ n2_
          have p1058 : 0 ≤ (x5_2 : Int) := dq_
          have q1058 : x5_2 < (l0_0.length : Int) := dq_
          obtain ⟨ad1058, e1058, hx1058_0, hx1058_1⟩ := at_T106 HR0_0.out x5_2 p1058 q1058
          have hw1058_1 := hx1058_1
          have hw1058_0 := hx1058_0
          cases e1058
          replace hx1058_0 := pw_cell_below HB.out hx1058_0
          replace hx1058_1 := pw_cell_below HB.out hx1058_1
          replace p1058 := eq_true p1058
          replace q1058 := eq_true q1058
          have p1059 : 0 ≤ (x5_2 : Int) := dq_
          have q1059 : x5_2 < (l1_0.length : Int) := dq_
          obtain ⟨ad1059, e1059, hx1059_0, hx1059_1⟩ := at_T106 HR1_0.out x5_2 p1059 q1059
          have hw1059_1 := hx1059_1
          have hw1059_0 := hx1059_0
          cases e1059
          replace hx1059_0 := pw_cell_below HB.out hx1059_0
          replace hx1059_1 := pw_cell_below HB.out hx1059_1
          replace p1059 := eq_true p1059
          replace q1059 := eq_true q1059
          refine start_ (n := 11) (S := fun w' => w'.cell? ⟨gb1056, 0, none⟩ = some (.slice (some ad1058) l0_0.length c0_0) ∧ w'.cell? ⟨gb1056, 1, none⟩ = some (.slice A0_1 l0_1.length c0_1) ∧ w'.cell? ⟨gb1057, 0, none⟩ = some (.slice (some ad1059) l1_0.length c1_0) ∧ w'.cell? ⟨gb1057, 1, none⟩ = some (.slice A1_1 l1_1.length c1_1) ∧ w'.cell? (ad1058.add ((x5_2).toNat * 2)) = some (.string ((rd_T106 l0_0 x5_2).f0)) ∧ w'.cell? ⟨(ad1058.add ((x5_2).toNat * 2)).block, (ad1058.add ((x5_2).toNat * 2)).off + 1, none⟩ = some (.int .i64 ((rd_T106 l0_0 x5_2).f1)) ∧ w'.cell? (ad1059.add ((x5_2).toNat * 2)) = some (.string ((rd_T106 l1_0 x5_2).f0)) ∧ w'.cell? ⟨(ad1059.add ((x5_2).toNat * 2)).block, (ad1059.add ((x5_2).toNat * 2)).off + 1, none⟩ = some (.int .i64 ((rd_T106 l1_0 x5_2).f1))) (ds := []) #[false, false, false, false, false, false, false, false, false, false, false] (by kernel_rfl) rfl rfl ⟨(blk_cell BK1056.out 0).trans rfl, (blk_cell BK1056.out 1).trans rfl, (blk_cell BK1057.out 0).trans rfl, (blk_cell BK1057.out 1).trans rfl, (pw_cell_below HB.out hw1058_0), (pw_cell_below HB.out hw1058_1), (pw_cell_below HB.out hw1059_0), (pw_cell_below HB.out hw1059_1)⟩ (fun hHeld => ?_); refine with_tabW sequentref04_Extends.tab6 sequentref04_Extends.bits6 (fun HT_ HW_ => ?_)
          generalize wr.drew = w20 at BK1056 BK1057 HB hx1058_0 hx1058_1 hx1059_0 hx1059_1 hHeld ⊢
          refine pure_ (i := 0) (N := some 30) (v := ?_) (a' := ?_) #[true, false, false, false, false, false, false, false, false, false, false] rfl rfl (any_of HT_.out (by kernel_rfl)) (fun _ _ _ h => h) (Or.inl ⟨by rfl, ?_⟩) ?_ ?_
          rotate_left
          ·intro w'
           go_simp
           with_reducible rfl
          rotate_left
          ·simp only [Act.put, List.setIfInBounds_toArray, List.set_cons_zero, List.set_cons_succ, i64_w, i32_w]
           rfl
          refine pure_ (i := 2) (N := some 32) (v := ?_) (a' := ?_) #[true, false, true, false, false, false, false, false, false, false, false] rfl rfl (any_of HT_.out (by kernel_rfl)) (fun _ _ _ h => h) (Or.inl ⟨by rfl, ?_⟩) ?_ ?_
          rotate_left
          ·intro w'
           go_simp
           with_reducible rfl
          rotate_left
          ·simp only [Act.put, List.setIfInBounds_toArray, List.set_cons_zero, List.set_cons_succ, i64_w, i32_w]
           rfl
          refine pure_ (i := 5) (N := some 35) (v := ?_) (a' := ?_) #[true, false, true, false, false, true, false, false, false, false, false] rfl rfl (any_of HT_.out (by kernel_rfl)) (fun _ _ _ h => h) (Or.inl ⟨by rfl, ?_⟩) ?_ ?_
          rotate_left
          ·intro w'
           go_simp
           with_reducible rfl
          rotate_left
          ·simp only [Act.put, List.setIfInBounds_toArray, List.set_cons_zero, List.set_cons_succ, i64_w, i32_w]
           rfl
          refine pure_ (i := 7) (N := some 37) (v := ?_) (a' := ?_) #[true, false, true, false, false, true, false, true, false, false, false] rfl rfl (any_of HT_.out (by kernel_rfl)) (fun _ _ _ h => h) (Or.inl ⟨by rfl, ?_⟩) ?_ ?_
          rotate_left
          ·intro w'
           go_simp
           with_reducible rfl
          rotate_left
          ·simp only [Act.put, List.setIfInBounds_toArray, List.set_cons_zero, List.set_cons_succ, i64_w, i32_w]
           rfl
          refine take_ (i := 1) (N := some 31) (v := ?_) (a' := ?_) #[true, true, true, false, false, true, false, true, false, false, false] rfl rfl (take_ofW HT_.out HW_.out (by kernel_rfl)) (fun _ _ _ h => h) (Or.inl ⟨by rfl, ?_⟩) hHeld ?_ ?_
          rotate_left
          ·rintro w' ⟨s0, s1, s2, s3, s4, s5, s6, s7⟩
           go_simp
           with_reducible rfl
          rotate_left
          ·simp only [Act.put, List.setIfInBounds_toArray, List.set_cons_zero, List.set_cons_succ, i64_w, i32_w]
           rfl
          refine pure_ (i := 3) (N := some 33) (v := ?_) (a' := ?_) #[true, true, true, true, false, true, false, true, false, false, false] rfl rfl (any_of HT_.out (by kernel_rfl)) (fun _ _ _ h => h) (Or.inl ⟨by rfl, ?_⟩) ?_ ?_
          rotate_left
          ·intro w'
           go_simp
           with_reducible rfl
          rotate_left
          ·simp only [Act.put, List.setIfInBounds_toArray, List.set_cons_zero, List.set_cons_succ, i64_w, i32_w]
           rfl
          refine take_ (i := 4) (N := some 34) (v := ?_) (a' := ?_) #[true, true, true, true, true, true, false, true, false, false, false] rfl rfl (take_ofW HT_.out HW_.out (by kernel_rfl)) (fun _ _ _ h => h) (Or.inl ⟨by rfl, ?_⟩) hHeld ?_ ?_
          rotate_left
          ·rintro w' ⟨s0, s1, s2, s3, s4, s5, s6, s7⟩
           go_simp
           with_reducible rfl
          rotate_left
          ·simp only [Act.put, List.setIfInBounds_toArray, List.set_cons_zero, List.set_cons_succ, i64_w, i32_w]
           rfl
          refine take_ (i := 6) (N := some 36) (v := ?_) (a' := ?_) #[true, true, true, true, true, true, true, true, false, false, false] rfl rfl (take_ofW HT_.out HW_.out (by kernel_rfl)) (fun _ _ _ h => h) (Or.inl ⟨by rfl, ?_⟩) hHeld ?_ ?_
          rotate_left
          ·rintro w' ⟨s0, s1, s2, s3, s4, s5, s6, s7⟩
           go_simp
           with_reducible rfl
          rotate_left
          ·simp only [Act.put, List.setIfInBounds_toArray, List.set_cons_zero, List.set_cons_succ, i64_w, i32_w]
           rfl
          refine pure_ (i := 8) (N := some 38) (v := ?_) (a' := ?_) #[true, true, true, true, true, true, true, true, true, false, false] rfl rfl (any_of HT_.out (by kernel_rfl)) (fun _ _ _ h => h) (Or.inl ⟨by rfl, ?_⟩) ?_ ?_
          rotate_left
          ·intro w'
           go_simp
           with_reducible rfl
          rotate_left
          ·simp only [Act.put, List.setIfInBounds_toArray, List.set_cons_zero, List.set_cons_succ, i64_w, i32_w]
           rfl
          refine take_ (i := 9) (N := some 39) (v := ?_) (a' := ?_) #[true, true, true, true, true, true, true, true, true, true, false] rfl rfl (take_ofW HT_.out HW_.out (by kernel_rfl)) (fun _ _ _ h => h) (Or.inl ⟨by rfl, ?_⟩) hHeld ?_ ?_
          rotate_left
          ·rintro w' ⟨s0, s1, s2, s3, s4, s5, s6, s7⟩
           go_simp
           with_reducible rfl
          rotate_left
          ·simp only [Act.put, List.setIfInBounds_toArray, List.set_cons_zero, List.set_cons_succ, i64_w, i32_w]
           rfl
          refine pure_ (i := 10) (N := some 40) (v := ?_) (a' := ?_) #[true, true, true, true, true, true, true, true, true, true, true] rfl rfl (any_of HT_.out (by kernel_rfl)) (fun _ _ _ h => h) (Or.inl ⟨by rfl, ?_⟩) ?_ ?_
          rotate_left
          ·intro w'
           go_simp
           with_reducible rfl
          rotate_left
          ·simp only [Act.put, List.setIfInBounds_toArray, List.set_cons_zero, List.set_cons_succ, i64_w, i32_w]
           rfl
          refine done_ (done_of HT_.out (by kernel_rfl)) ?_
          try go_wp2
          go_ret
          exact ⟨by first | rfl | (simp [errW_none, errW_some] <;> rfl) | (simp [*, errW_none, errW_some] <;> rfl), bel_⟩
         ·rw [if_neg c17] at H
          have c17b0 : (!((((rd_T106 l0_0 x5_2).f0).toList) == (((rd_T106 l1_0 x5_2).f0).toList)) || (!(((rd_T106 l0_0 x5_2).f1) == ((rd_T106 l1_0 x5_2).f1)))) = false := by simpa using c17
          clear c17
          have H' := Aside0.mk H
          clear H
          have hnb21 := NB1057_1056.out
          have hnc21 := NB1056_1057.out
          have hcz22_0 : wr.cell? ⟨gb1057, 0, none⟩ = some (.slice A1_0 l1_0.length c1_0) := (blk_cell BK1057.out 0).trans rfl
          have hcz22_1 : wr.cell? ⟨gb1057, 1, none⟩ = some (.slice A1_1 l1_1.length c1_1) := (blk_cell BK1057.out 1).trans rfl
          have hfz22_0 := blk_frozen BK1057.out 0
          have hfz22_1 := blk_frozen BK1057.out 1
          try go_wp2
          have n0_ := Aside0.mk (blk_drew BK1056.out)
          have n1_ := Aside0.mk (blk_drew BK1057.out)
          have n2_ := Aside0.mk (below_drew1 HB.out)
          clear BK1056
          clear BK1057
          clear HB
          have BK1056 := n0_
          have BK1057 := n1_
          have HB := n2_
          clear n0_ n1_ n2_
          have p1058 : 0 ≤ (x5_2 : Int) := dq_
          have q1058 : x5_2 < (l0_0.length : Int) := dq_
          obtain ⟨ad1058, e1058, hx1058_0, hx1058_1⟩ := at_T106 HR0_0.out x5_2 p1058 q1058
          have hw1058_1 := hx1058_1
          have hw1058_0 := hx1058_0
          cases e1058
          replace hx1058_0 := pw_cell_below HB.out hx1058_0
          replace hx1058_1 := pw_cell_below HB.out hx1058_1
          replace p1058 := eq_true p1058
          replace q1058 := eq_true q1058
          have p1059 : 0 ≤ (x5_2 : Int) := dq_
          have q1059 : x5_2 < (l1_0.length : Int) := dq_
          obtain ⟨ad1059, e1059, hx1059_0, hx1059_1⟩ := at_T106 HR1_0.out x5_2 p1059 q1059
          have hw1059_1 := hx1059_1
          have hw1059_0 := hx1059_0
          cases e1059
          replace hx1059_0 := pw_cell_below HB.out hx1059_0
          replace hx1059_1 := pw_cell_below HB.out hx1059_1
          replace p1059 := eq_true p1059
          replace q1059 := eq_true q1059
          refine start_ (n := 11) (S := fun w' => w'.cell? ⟨gb1056, 0, none⟩ = some (.slice (some ad1058) l0_0.length c0_0) ∧ w'.cell? ⟨gb1056, 1, none⟩ = some (.slice A0_1 l0_1.length c0_1) ∧ w'.cell? ⟨gb1057, 0, none⟩ = some (.slice (some ad1059) l1_0.length c1_0) ∧ w'.cell? ⟨gb1057, 1, none⟩ = some (.slice A1_1 l1_1.length c1_1) ∧ w'.cell? (ad1058.add ((x5_2).toNat * 2)) = some (.string ((rd_T106 l0_0 x5_2).f0)) ∧ w'.cell? ⟨(ad1058.add ((x5_2).toNat * 2)).block, (ad1058.add ((x5_2).toNat * 2)).off + 1, none⟩ = some (.int .i64 ((rd_T106 l0_0 x5_2).f1)) ∧ w'.cell? (ad1059.add ((x5_2).toNat * 2)) = some (.string ((rd_T106 l1_0 x5_2).f0)) ∧ w'.cell? ⟨(ad1059.add ((x5_2).toNat * 2)).block, (ad1059.add ((x5_2).toNat * 2)).off + 1, none⟩ = some (.int .i64 ((rd_T106 l1_0 x5_2).f1))) (ds := []) #[false, false, false, false, false, false, false, false, false, false, false] (by kernel_rfl) rfl rfl ⟨(blk_cell BK1056.out 0).trans rfl, (blk_cell BK1056.out 1).trans rfl, (blk_cell BK1057.out 0).trans rfl, (blk_cell BK1057.out 1).trans rfl, (pw_cell_below HB.out hw1058_0), (pw_cell_below HB.out hw1058_1), (pw_cell_below HB.out hw1059_0), (pw_cell_below HB.out hw1059_1)⟩ (fun hHeld => ?_); refine with_tabW sequentref04_Extends.tab6 sequentref04_Extends.bits6 (fun HT_ HW_ => ?_)
          generalize wr.drew = w23 at BK1056 BK1057 HB hx1058_0 hx1058_1 hx1059_0 hx1059_1 hHeld ⊢
          refine pure_ (i := 0) (N := some 30) (v := ?_) (a' := ?_) #[true, false, false, false, false, false, false, false, false, false, false] rfl rfl (any_of HT_.out (by kernel_rfl)) (fun _ _ _ h => h) (Or.inl ⟨by rfl, ?_⟩) ?_ ?_
          rotate_left
          ·intro w'
           go_simp
           with_reducible rfl
          rotate_left
          ·simp only [Act.put, List.setIfInBounds_toArray, List.set_cons_zero, List.set_cons_succ, i64_w, i32_w]
           rfl
          refine pure_ (i := 2) (N := some 32) (v := ?_) (a' := ?_) #[true, false, true, false, false, false, false, false, false, false, false] rfl rfl (any_of HT_.out (by kernel_rfl)) (fun _ _ _ h => h) (Or.inl ⟨by rfl, ?_⟩) ?_ ?_
          rotate_left
          ·intro w'
           go_simp
           with_reducible rfl
          rotate_left
          ·simp only [Act.put, List.setIfInBounds_toArray, List.set_cons_zero, List.set_cons_succ, i64_w, i32_w]
           rfl
          refine pure_ (i := 5) (N := some 35) (v := ?_) (a' := ?_) #[true, false, true, false, false, true, false, false, false, false, false] rfl rfl (any_of HT_.out (by kernel_rfl)) (fun _ _ _ h => h) (Or.inl ⟨by rfl, ?_⟩) ?_ ?_
          rotate_left
          ·intro w'
           go_simp
           with_reducible rfl
          rotate_left
          ·simp only [Act.put, List.setIfInBounds_toArray, List.set_cons_zero, List.set_cons_succ, i64_w, i32_w]
           rfl
          refine pure_ (i := 7) (N := some 37) (v := ?_) (a' := ?_) #[true, false, true, false, false, true, false, true, false, false, false] rfl rfl (any_of HT_.out (by kernel_rfl)) (fun _ _ _ h => h) (Or.inl ⟨by rfl, ?_⟩) ?_ ?_
          rotate_left
          ·intro w'
           go_simp
           with_reducible rfl
          rotate_left
          ·simp only [Act.put, List.setIfInBounds_toArray, List.set_cons_zero, List.set_cons_succ, i64_w, i32_w]
           rfl
          refine take_ (i := 1) (N := some 31) (v := ?_) (a' := ?_) #[true, true, true, false, false, true, false, true, false, false, false] rfl rfl (take_ofW HT_.out HW_.out (by kernel_rfl)) (fun _ _ _ h => h) (Or.inl ⟨by rfl, ?_⟩) hHeld ?_ ?_
          rotate_left
          ·rintro w' ⟨s0, s1, s2, s3, s4, s5, s6, s7⟩
           go_simp
           with_reducible rfl
          rotate_left
          ·simp only [Act.put, List.setIfInBounds_toArray, List.set_cons_zero, List.set_cons_succ, i64_w, i32_w]
           rfl
          refine pure_ (i := 3) (N := some 33) (v := ?_) (a' := ?_) #[true, true, true, true, false, true, false, true, false, false, false] rfl rfl (any_of HT_.out (by kernel_rfl)) (fun _ _ _ h => h) (Or.inl ⟨by rfl, ?_⟩) ?_ ?_
          rotate_left
          ·intro w'
           go_simp
           with_reducible rfl
          rotate_left
          ·simp only [Act.put, List.setIfInBounds_toArray, List.set_cons_zero, List.set_cons_succ, i64_w, i32_w]
           rfl
          refine take_ (i := 4) (N := some 34) (v := ?_) (a' := ?_) #[true, true, true, true, true, true, false, true, false, false, false] rfl rfl (take_ofW HT_.out HW_.out (by kernel_rfl)) (fun _ _ _ h => h) (Or.inl ⟨by rfl, ?_⟩) hHeld ?_ ?_
          rotate_left
          ·rintro w' ⟨s0, s1, s2, s3, s4, s5, s6, s7⟩
           go_simp
           with_reducible rfl
          rotate_left
          ·simp only [Act.put, List.setIfInBounds_toArray, List.set_cons_zero, List.set_cons_succ, i64_w, i32_w]
           rfl
          refine take_ (i := 6) (N := some 36) (v := ?_) (a' := ?_) #[true, true, true, true, true, true, true, true, false, false, false] rfl rfl (take_ofW HT_.out HW_.out (by kernel_rfl)) (fun _ _ _ h => h) (Or.inl ⟨by rfl, ?_⟩) hHeld ?_ ?_
          rotate_left
          ·rintro w' ⟨s0, s1, s2, s3, s4, s5, s6, s7⟩
           go_simp
           with_reducible rfl
          rotate_left
          ·simp only [Act.put, List.setIfInBounds_toArray, List.set_cons_zero, List.set_cons_succ, i64_w, i32_w]
           rfl
          refine pure_ (i := 8) (N := some 38) (v := ?_) (a' := ?_) #[true, true, true, true, true, true, true, true, true, false, false] rfl rfl (any_of HT_.out (by kernel_rfl)) (fun _ _ _ h => h) (Or.inl ⟨by rfl, ?_⟩) ?_ ?_
          rotate_left
          ·intro w'
           go_simp
           with_reducible rfl
          rotate_left
          ·simp only [Act.put, List.setIfInBounds_toArray, List.set_cons_zero, List.set_cons_succ, i64_w, i32_w]
           rfl
          refine take_ (i := 9) (N := some 39) (v := ?_) (a' := ?_) #[true, true, true, true, true, true, true, true, true, true, false] rfl rfl (take_ofW HT_.out HW_.out (by kernel_rfl)) (fun _ _ _ h => h) (Or.inl ⟨by rfl, ?_⟩) hHeld ?_ ?_
          rotate_left
          ·rintro w' ⟨s0, s1, s2, s3, s4, s5, s6, s7⟩
           go_simp
           with_reducible rfl
          rotate_left
          ·simp only [Act.put, List.setIfInBounds_toArray, List.set_cons_zero, List.set_cons_succ, i64_w, i32_w]
           rfl
          refine pure_ (i := 10) (N := some 40) (v := ?_) (a' := ?_) #[true, true, true, true, true, true, true, true, true, true, true] rfl rfl (any_of HT_.out (by kernel_rfl)) (fun _ _ _ h => h) (Or.inl ⟨by rfl, ?_⟩) ?_ ?_
          rotate_left
          ·intro w'
           go_simp
           with_reducible rfl
          rotate_left
          ·simp only [Act.put, List.setIfInBounds_toArray, List.set_cons_zero, List.set_cons_succ, i64_w, i32_w]
           rfl
          refine done_ (done_of HT_.out (by kernel_rfl)) ?_
          try go_wp2
          go_roundg k2
          case measure => have := HJ2.out; have := HK2.out; omega
          case rel => exact ⟨(wrap64 (x5_2 + 1)), (by first | rfl | (simp; done) | (simp [*]; done)), H', ⟨by have := HJ2.out; have := HK2.out; omega⟩, ⟨bk_ BK1056⟩, ⟨bk_ BK1057⟩, ⟨bel_⟩⟩
        ·rw [if_neg c16] at H
         exact absurd H (by simp)
       ·rw [if_neg c15] at H
        exact absurd H (by simp)
      ·rw [if_neg c14] at H
       have c14b0 : decide (x5_2 < (l1_0.length : Int)) = false := decide_eq_false c14
       clear c14
       have H' := Aside0.mk H
       clear H
       have hnb24 := NB1057_1056.out
       have hnc24 := NB1056_1057.out
       have hcz25_0 : wr.cell? ⟨gb1057, 0, none⟩ = some (.slice A1_0 l1_0.length c1_0) := (blk_cell BK1057.out 0).trans rfl
       have hcz25_1 : wr.cell? ⟨gb1057, 1, none⟩ = some (.slice A1_1 l1_1.length c1_1) := (blk_cell BK1057.out 1).trans rfl
       have hfz25_0 := blk_frozen BK1057.out 0
       have hfz25_1 := blk_frozen BK1057.out 1
       go_wp2
       go_loopg [6] k2 (fun kq v6 w' => ∃ (x6_3 : Int), v6 = .int .i64 x6_3 ∧ Aside0 (sequentref04_Extends.l1 kq x6_3 l0_0 l0_1 l1_0 l1_1 = some r) ∧ Aside0 (kq ≤ k2) ∧ Aside0 (w'.heap[gb1056]? = some (.cells #[(.slice A0_0 l0_0.length c0_0), (.slice A0_1 l0_1.length c0_1)] 94 (0, 0))) ∧ Aside0 (w'.heap[gb1057]? = some (.cells #[(.slice A1_0 l1_0.length c1_0), (.slice A1_1 l1_1.length c1_1)] 94 (0, 0))) ∧ Aside0 (Below w.heap.size w w'))
       case atStart => exact ⟨(0), (by first | rfl | (simp; done) | (simp [*]; done)), H', ⟨Nat.le_refl _⟩, ⟨bk_ BK1056⟩, ⟨bk_ BK1057⟩, ⟨bel_⟩⟩
       case round =>
        clear H'
        try clear c1
        try clear p1
        try clear q1
        try clear hx1
        try clear c2
        try clear p2
        try clear c6
        try clear c6b0
        try clear c6b1
        try clear p6
        try clear c7
        try clear c8
        try clear c10
        try clear p10
        try clear q10
        try clear hx10
        try clear c13
        try clear c14
        try clear c14b0
        try clear c15
        try clear c15b0
        try clear c16
        try clear c16b0
        try clear c17
        try clear c17b0
        try clear c18
        try clear c21
        try clear c24
        try clear hcz11_0
        try clear hcz11_1
        try clear hcz12_0
        try clear hcz12_1
        try clear hcz19_0
        try clear hcz19_1
        try clear hcz22_0
        try clear hcz22_1
        try clear hcz25_0
        try clear hcz25_1
        try clear hcz8_0
        try clear hcz8_1
        try clear hcz9_0
        try clear hcz9_1
        try clear hfz11_0
        try clear hfz11_1
        try clear hfz12_0
        try clear hfz12_1
        try clear hfz19_0
        try clear hfz19_1
        try clear hfz22_0
        try clear hfz22_1
        try clear hfz25_0
        try clear hfz25_1
        try clear hfz8_0
        try clear hfz8_1
        try clear hfz9_0
        try clear hfz9_1
        try clear hx1058_0
        try clear hx1058_1
        try clear hx1059_0
        try clear hx1059_1
        try clear p1058
        try clear p1059
        try clear p2
        try clear q1058
        try clear q1059
        obtain ⟨x6_3, rfl, HA, HK3, BK1056, BK1057, HB⟩ := hrel
        cases gk with
        | zero => exact absurd HA.out (by simp [sequentref04_Extends.l1])
        | succ k3 =>
         have H := HA.out
         clear HA
         simp only [sequentref04_Extends.l1] at H
         by_cases c26 : x6_3 < (l1_1.length : Int)
         ·rw [if_pos c26] at H
          have c26b0 : decide (x6_3 < (l1_1.length : Int)) = true := decide_eq_true c26
          clear c26
          by_cases c27 : 0 ≤ x6_3
          ·rw [if_pos c27] at H
           have c27b0 : decide (0 ≤ x6_3) = true := decide_eq_true c27
           clear c27
           by_cases c28 : x6_3 < (l0_1.length : Int)
           ·rw [if_pos c28] at H
            have c28b0 : decide (x6_3 < (l0_1.length : Int)) = true := decide_eq_true c28
            clear c28
            by_cases c29 : ((rd_T108 l0_1 x6_3).f0).toList = ((rd_T108 l1_1 x6_3).f0).toList
            ·rw [if_pos c29] at H
             have c29b0 : (((rd_T108 l0_1 x6_3).f0).toList == ((rd_T108 l1_1 x6_3).f0).toList) = true := beq_iff_eq.mpr c29
             have c29b1 : (((rd_T108 l0_1 x6_3).f0).toList != ((rd_T108 l1_1 x6_3).f0).toList) = false := bne_eq_false_iff_eq.mpr c29
             clear c29
             replace H := Option.bind_eq_some_iff.mp H
             obtain ⟨t1064, A300, H⟩ := H
             replace H : (if t1064 = true then (sequentref04_Extends.l1 k3 (wrap64 (x6_3 + 1)) l0_0 l0_1 l1_0 l1_1) else (some false)) = some r := H
             have A30 := Aside0.mk A300
             clear A300
             by_cases c31 : t1064 = true
             ·subst c31
              have H1 : (sequentref04_Extends.l1 k3 (wrap64 (x6_3 + 1)) l0_0 l0_1 l1_0 l1_1) = some r := by rw [if_pos rfl] at H; exact H
              clear H
              have H := H1
              clear H1
              have H' := Aside0.mk H
              clear H
              have hnb32 := NB1057_1056.out
              have hnc32 := NB1056_1057.out
              have hcz33_0 : wr.cell? ⟨gb1057, 0, none⟩ = some (.slice A1_0 l1_0.length c1_0) := (blk_cell BK1057.out 0).trans rfl
              have hcz33_1 : wr.cell? ⟨gb1057, 1, none⟩ = some (.slice A1_1 l1_1.length c1_1) := (blk_cell BK1057.out 1).trans rfl
              have hfz33_0 := blk_frozen BK1057.out 0
              have hfz33_1 := blk_frozen BK1057.out 1
              try go_wp2
              have n0_ := Aside0.mk (blk_drew BK1056.out)
              have n1_ := Aside0.mk (blk_drew BK1057.out)
              have n2_ := Aside0.mk (below_drew1 HB.out)
              clear BK1056
              clear BK1057
              clear HB
              have BK1056 := n0_
              have BK1057 := n1_
              have HB := n2_
              clear n0_ n1_ n2_
              have p1060 : 0 ≤ (x6_3 : Int) := dq_
              have q1060 : x6_3 < (l0_1.length : Int) := dq_
              obtain ⟨ad1060, A1060_3, c1060_3, e1060, hx1060_0, hx1060_1, hx1060_2, hx1060_3, hl1060_3, hi1060_3⟩ := at_T108 HR0_1.out x6_3 p1060 q1060
              have hw1060_3 := hx1060_3
              have hw1060_2 := hx1060_2
              have hw1060_1 := hx1060_1
              have hw1060_0 := hx1060_0
              cases e1060
              replace hx1060_0 := pw_cell_below HB.out hx1060_0
              replace hx1060_1 := pw_cell_below HB.out hx1060_1
              replace hx1060_2 := pw_cell_below HB.out hx1060_2
              replace hx1060_3 := pw_cell_below HB.out hx1060_3
              have HR1060_3 := Aside0.mk hi1060_3
              have HC1060_3 := Aside0.mk hl1060_3
              clear hi1060_3 hl1060_3
              replace p1060 := eq_true p1060
              replace q1060 := eq_true q1060
              have p1061 : 0 ≤ (x6_3 : Int) := dq_
              have q1061 : x6_3 < (l1_1.length : Int) := dq_
              obtain ⟨ad1061, A1061_3, c1061_3, e1061, hx1061_0, hx1061_1, hx1061_2, hx1061_3, hl1061_3, hi1061_3⟩ := at_T108 HR1_1.out x6_3 p1061 q1061
              have hw1061_3 := hx1061_3
              have hw1061_2 := hx1061_2
              have hw1061_1 := hx1061_1
              have hw1061_0 := hx1061_0
              cases e1061
              replace hx1061_0 := pw_cell_below HB.out hx1061_0
              replace hx1061_1 := pw_cell_below HB.out hx1061_1
              replace hx1061_2 := pw_cell_below HB.out hx1061_2
              replace hx1061_3 := pw_cell_below HB.out hx1061_3
              have HR1061_3 := Aside0.mk hi1061_3
              have HC1061_3 := Aside0.mk hl1061_3
              clear hi1061_3 hl1061_3
              replace p1061 := eq_true p1061
              replace q1061 := eq_true q1061
              have p1062 : 0 ≤ (x6_3 : Int) := dq_
              have q1062 : x6_3 < (l0_1.length : Int) := dq_
              obtain ⟨ad1062, A1062_3, c1062_3, e1062, hx1062_0, hx1062_1, hx1062_2, hx1062_3, hl1062_3, hi1062_3⟩ := at_T108 HR0_1.out x6_3 p1062 q1062
              have hw1062_3 := hx1062_3
              have hw1062_2 := hx1062_2
              have hw1062_1 := hx1062_1
              have hw1062_0 := hx1062_0
              obtain rfl : ad1060 = ad1062 := (by injection e1062)
              replace hx1062_0 := pw_cell_below HB.out hx1062_0
              replace hx1062_1 := pw_cell_below HB.out hx1062_1
              replace hx1062_2 := pw_cell_below HB.out hx1062_2
              replace hx1062_3 := pw_cell_below HB.out hx1062_3
              have HR1062_3 := Aside0.mk hi1062_3
              have HC1062_3 := Aside0.mk hl1062_3
              clear hi1062_3 hl1062_3
              replace p1062 := eq_true p1062
              replace q1062 := eq_true q1062
              have ea_ := Option.some.inj (hx1060_3.symm.trans hx1062_3)
              injection ea_ with ea_ en_ ec_
              subst ea_
              subst ec_
              clear en_
              have p1063 : 0 ≤ (x6_3 : Int) := dq_
              have q1063 : x6_3 < (l1_1.length : Int) := dq_
              obtain ⟨ad1063, A1063_3, c1063_3, e1063, hx1063_0, hx1063_1, hx1063_2, hx1063_3, hl1063_3, hi1063_3⟩ := at_T108 HR1_1.out x6_3 p1063 q1063
              have hw1063_3 := hx1063_3
              have hw1063_2 := hx1063_2
              have hw1063_1 := hx1063_1
              have hw1063_0 := hx1063_0
              obtain rfl : ad1061 = ad1063 := (by injection e1063)
              replace hx1063_0 := pw_cell_below HB.out hx1063_0
              replace hx1063_1 := pw_cell_below HB.out hx1063_1
              replace hx1063_2 := pw_cell_below HB.out hx1063_2
              replace hx1063_3 := pw_cell_below HB.out hx1063_3
              have HR1063_3 := Aside0.mk hi1063_3
              have HC1063_3 := Aside0.mk hl1063_3
              clear hi1063_3 hl1063_3
              replace p1063 := eq_true p1063
              replace q1063 := eq_true q1063
              have ea_ := Option.some.inj (hx1061_3.symm.trans hx1063_3)
              injection ea_ with ea_ en_ ec_
              subst ea_
              subst ec_
              clear en_
              refine start_ (n := 29) (S := fun w' => w'.cell? ⟨gb1056, 0, none⟩ = some (.slice A0_0 l0_0.length c0_0) ∧ w'.cell? ⟨gb1056, 1, none⟩ = some (.slice (some ad1060) l0_1.length c0_1) ∧ w'.cell? ⟨gb1057, 0, none⟩ = some (.slice A1_0 l1_0.length c1_0) ∧ w'.cell? ⟨gb1057, 1, none⟩ = some (.slice (some ad1061) l1_1.length c1_1) ∧ w'.cell? (ad1060.add ((x6_3).toNat * 4)) = some (.string ((rd_T108 l0_1 x6_3).f0)) ∧ w'.cell? ⟨(ad1060.add ((x6_3).toNat * 4)).block, (ad1060.add ((x6_3).toNat * 4)).off + 1, none⟩ = some (.bool ((rd_T108 l0_1 x6_3).f1.f0)) ∧ w'.cell? ⟨(ad1060.add ((x6_3).toNat * 4)).block, (ad1060.add ((x6_3).toNat * 4)).off + 2, none⟩ = some (.string ((rd_T108 l0_1 x6_3).f1.f1)) ∧ w'.cell? ⟨(ad1060.add ((x6_3).toNat * 4)).block, (ad1060.add ((x6_3).toNat * 4)).off + 3, none⟩ = some (.slice A1060_3 ((rd_T108 l0_1 x6_3).f1.f2).length c1060_3) ∧ w'.cell? (ad1061.add ((x6_3).toNat * 4)) = some (.string ((rd_T108 l1_1 x6_3).f0)) ∧ w'.cell? ⟨(ad1061.add ((x6_3).toNat * 4)).block, (ad1061.add ((x6_3).toNat * 4)).off + 1, none⟩ = some (.bool ((rd_T108 l1_1 x6_3).f1.f0)) ∧ w'.cell? ⟨(ad1061.add ((x6_3).toNat * 4)).block, (ad1061.add ((x6_3).toNat * 4)).off + 2, none⟩ = some (.string ((rd_T108 l1_1 x6_3).f1.f1)) ∧ w'.cell? ⟨(ad1061.add ((x6_3).toNat * 4)).block, (ad1061.add ((x6_3).toNat * 4)).off + 3, none⟩ = some (.slice A1061_3 ((rd_T108 l1_1 x6_3).f1.f2).length c1061_3) ∧ w'.cell? (ad1060.add ((x6_3).toNat * 4)) = some (.string ((rd_T108 l0_1 x6_3).f0)) ∧ w'.cell? ⟨(ad1060.add ((x6_3).toNat * 4)).block, (ad1060.add ((x6_3).toNat * 4)).off + 1, none⟩ = some (.bool ((rd_T108 l0_1 x6_3).f1.f0)) ∧ w'.cell? ⟨(ad1060.add ((x6_3).toNat * 4)).block, (ad1060.add ((x6_3).toNat * 4)).off + 2, none⟩ = some (.string ((rd_T108 l0_1 x6_3).f1.f1)) ∧ w'.cell? ⟨(ad1060.add ((x6_3).toNat * 4)).block, (ad1060.add ((x6_3).toNat * 4)).off + 3, none⟩ = some (.slice A1060_3 ((rd_T108 l0_1 x6_3).f1.f2).length c1060_3) ∧ w'.cell? (ad1061.add ((x6_3).toNat * 4)) = some (.string ((rd_T108 l1_1 x6_3).f0)) ∧ w'.cell? ⟨(ad1061.add ((x6_3).toNat * 4)).block, (ad1061.add ((x6_3).toNat * 4)).off + 1, none⟩ = some (.bool ((rd_T108 l1_1 x6_3).f1.f0)) ∧ w'.cell? ⟨(ad1061.add ((x6_3).toNat * 4)).block, (ad1061.add ((x6_3).toNat * 4)).off + 2, none⟩ = some (.string ((rd_T108 l1_1 x6_3).f1.f1)) ∧ w'.cell? ⟨(ad1061.add ((x6_3).toNat * 4)).block, (ad1061.add ((x6_3).toNat * 4)).off + 3, none⟩ = some (.slice A1061_3 ((rd_T108 l1_1 x6_3).f1.f2).length c1061_3)) (ds := []) #[false, false, false, false, false, false, false, false, false, false, false, false, false, false, false, false, false, false, false, false, false, false, false, false, false, false, false, false, false] (by kernel_rfl) rfl rfl ⟨(blk_cell BK1056.out 0).trans rfl, (blk_cell BK1056.out 1).trans rfl, (blk_cell BK1057.out 0).trans rfl, (blk_cell BK1057.out 1).trans rfl, (pw_cell_below HB.out hw1060_0), (pw_cell_below HB.out hw1060_1), (pw_cell_below HB.out hw1060_2), (pw_cell_below HB.out hw1060_3), (pw_cell_below HB.out hw1061_0), (pw_cell_below HB.out hw1061_1), (pw_cell_below HB.out hw1061_2), (pw_cell_below HB.out hw1061_3), (pw_cell_below HB.out hw1062_0), (pw_cell_below HB.out hw1062_1), (pw_cell_below HB.out hw1062_2), (pw_cell_below HB.out hw1062_3), (pw_cell_below HB.out hw1063_0), (pw_cell_below HB.out hw1063_1), (pw_cell_below HB.out hw1063_2), (pw_cell_below HB.out hw1063_3)⟩ (fun hHeld => ?_); refine with_tabW sequentref04_Extends.tab11 sequentref04_Extends.bits11 (fun HT_ HW_ => ?_)
              generalize wr.drew = w34 at BK1056 BK1057 HB HR1060_3 HR1061_3 HR1062_3 HR1063_3 hx1060_0 hx1060_1 hx1060_2 hx1060_3 hx1061_0 hx1061_1 hx1061_2 hx1061_3 hx1062_0 hx1062_1 hx1062_2 hx1062_3 hx1063_0 hx1063_1 hx1063_2 hx1063_3 hHeld ⊢
              refine pure_ (i := 0) (N := some 48) (v := ?_) (a' := ?_) #[true, false, false, false, false, false, false, false, false, false, false, false, false, false, false, false, false, false, false, false, false, false, false, false, false, false, false, false, false] rfl rfl (any_of HT_.out (by kernel_rfl)) (fun _ _ _ h => h) (Or.inl ⟨by rfl, ?_⟩) ?_ ?_
              rotate_left
              ·intro w'
               go_simp
               with_reducible rfl
              rotate_left
              ·simp only [Act.put, List.setIfInBounds_toArray, List.set_cons_zero, List.set_cons_succ, i64_w, i32_w]
               rfl
              refine pure_ (i := 2) (N := some 50) (v := ?_) (a' := ?_) #[true, false, true, false, false, false, false, false, false, false, false, false, false, false, false, false, false, false, false, false, false, false, false, false, false, false, false, false, false] rfl rfl (any_of HT_.out (by kernel_rfl)) (fun _ _ _ h => h) (Or.inl ⟨by rfl, ?_⟩) ?_ ?_
              rotate_left
              ·intro w'
               go_simp
               with_reducible rfl
              rotate_left
              ·simp only [Act.put, List.setIfInBounds_toArray, List.set_cons_zero, List.set_cons_succ, i64_w, i32_w]
               rfl
              refine pure_ (i := 6) (N := some 54) (v := ?_) (a' := ?_) #[true, false, true, false, false, false, true, false, false, false, false, false, false, false, false, false, false, false, false, false, false, false, false, false, false, false, false, false, false] rfl rfl (any_of HT_.out (by kernel_rfl)) (fun _ _ _ h => h) (Or.inl ⟨by rfl, ?_⟩) ?_ ?_
              rotate_left
              ·intro w'
               go_simp
               with_reducible rfl
              rotate_left
              ·simp only [Act.put, List.setIfInBounds_toArray, List.set_cons_zero, List.set_cons_succ, i64_w, i32_w]
               rfl
              refine pure_ (i := 8) (N := some 56) (v := ?_) (a' := ?_) #[true, false, true, false, false, false, true, false, true, false, false, false, false, false, false, false, false, false, false, false, false, false, false, false, false, false, false, false, false] rfl rfl (any_of HT_.out (by kernel_rfl)) (fun _ _ _ h => h) (Or.inl ⟨by rfl, ?_⟩) ?_ ?_
              rotate_left
              ·intro w'
               go_simp
               with_reducible rfl
              rotate_left
              ·simp only [Act.put, List.setIfInBounds_toArray, List.set_cons_zero, List.set_cons_succ, i64_w, i32_w]
               rfl
              refine take_ (i := 1) (N := some 49) (v := ?_) (a' := ?_) #[true, true, true, false, false, false, true, false, true, false, false, false, false, false, false, false, false, false, false, false, false, false, false, false, false, false, false, false, false] rfl rfl (take_ofW HT_.out HW_.out (by kernel_rfl)) (fun _ _ _ h => h) (Or.inl ⟨by rfl, ?_⟩) hHeld ?_ ?_
              rotate_left
              ·rintro w' ⟨s0, s1, s2, s3, s4, s5, s6, s7, s8, s9, s10, s11, s12, s13, s14, s15, s16, s17, s18, s19⟩
               go_simp
               with_reducible rfl
              rotate_left
              ·simp only [Act.put, List.setIfInBounds_toArray, List.set_cons_zero, List.set_cons_succ, i64_w, i32_w]
               rfl
              refine pure_ (i := 3) (N := some 51) (v := ?_) (a' := ?_) #[true, true, true, true, false, false, true, false, true, false, false, false, false, false, false, false, false, false, false, false, false, false, false, false, false, false, false, false, false] rfl rfl (any_of HT_.out (by kernel_rfl)) (fun _ _ _ h => h) (Or.inl ⟨by rfl, ?_⟩) ?_ ?_
              rotate_left
              ·intro w'
               go_simp
               with_reducible rfl
              rotate_left
              ·simp only [Act.put, List.setIfInBounds_toArray, List.set_cons_zero, List.set_cons_succ, i64_w, i32_w]
               rfl
              refine pure_ (i := 4) (N := some 52) (v := ?_) (a' := ?_) #[true, true, true, true, true, false, true, false, true, false, false, false, false, false, false, false, false, false, false, false, false, false, false, false, false, false, false, false, false] rfl rfl (any_of HT_.out (by kernel_rfl)) (fun _ _ _ h => h) (Or.inl ⟨by rfl, ?_⟩) ?_ ?_
              rotate_left
              ·intro w'
               go_simp
               with_reducible rfl
              rotate_left
              ·simp only [Act.put, List.setIfInBounds_toArray, List.set_cons_zero, List.set_cons_succ, i64_w, i32_w]
               rfl
              refine take_ (i := 5) (N := some 53) (v := ?_) (a' := ?_) #[true, true, true, true, true, true, true, false, true, false, false, false, false, false, false, false, false, false, false, false, false, false, false, false, false, false, false, false, false] rfl rfl (take_ofW HT_.out HW_.out (by kernel_rfl)) (fun _ _ _ h => h) (Or.inl ⟨by rfl, ?_⟩) hHeld ?_ ?_
              rotate_left
              ·rintro w' ⟨s0, s1, s2, s3, s4, s5, s6, s7, s8, s9, s10, s11, s12, s13, s14, s15, s16, s17, s18, s19⟩
               go_simp
               with_reducible rfl
              rotate_left
              ·simp only [Act.put, List.setIfInBounds_toArray, List.set_cons_zero, List.set_cons_succ, i64_w, i32_w]
               rfl
              refine take_ (i := 7) (N := some 55) (v := ?_) (a' := ?_) #[true, true, true, true, true, true, true, true, true, false, false, false, false, false, false, false, false, false, false, false, false, false, false, false, false, false, false, false, false] rfl rfl (take_ofW HT_.out HW_.out (by kernel_rfl)) (fun _ _ _ h => h) (Or.inl ⟨by rfl, ?_⟩) hHeld ?_ ?_
              rotate_left
              ·rintro w' ⟨s0, s1, s2, s3, s4, s5, s6, s7, s8, s9, s10, s11, s12, s13, s14, s15, s16, s17, s18, s19⟩
               go_simp
               with_reducible rfl
              rotate_left
              ·simp only [Act.put, List.setIfInBounds_toArray, List.set_cons_zero, List.set_cons_succ, i64_w, i32_w]
               rfl
              refine pure_ (i := 9) (N := some 57) (v := ?_) (a' := ?_) #[true, true, true, true, true, true, true, true, true, true, false, false, false, false, false, false, false, false, false, false, false, false, false, false, false, false, false, false, false] rfl rfl (any_of HT_.out (by kernel_rfl)) (fun _ _ _ h => h) (Or.inl ⟨by rfl, ?_⟩) ?_ ?_
              rotate_left
              ·intro w'
               go_simp
               with_reducible rfl
              rotate_left
              ·simp only [Act.put, List.setIfInBounds_toArray, List.set_cons_zero, List.set_cons_succ, i64_w, i32_w]
               rfl
              refine pure_ (i := 10) (N := some 58) (v := ?_) (a' := ?_) #[true, true, true, true, true, true, true, true, true, true, true, false, false, false, false, false, false, false, false, false, false, false, false, false, false, false, false, false, false] rfl rfl (any_of HT_.out (by kernel_rfl)) (fun _ _ _ h => h) (Or.inl ⟨by rfl, ?_⟩) ?_ ?_
              rotate_left
              ·intro w'
               go_simp
               with_reducible rfl
              rotate_left
              ·simp only [Act.put, List.setIfInBounds_toArray, List.set_cons_zero, List.set_cons_succ, i64_w, i32_w]
               rfl
              refine take_ (i := 11) (N := some 59) (v := ?_) (a' := ?_) #[true, true, true, true, true, true, true, true, true, true, true, true, false, false, false, false, false, false, false, false, false, false, false, false, false, false, false, false, false] rfl rfl (take_ofW HT_.out HW_.out (by kernel_rfl)) (fun _ _ _ h => h) (Or.inl ⟨by rfl, ?_⟩) hHeld ?_ ?_
              rotate_left
              ·rintro w' ⟨s0, s1, s2, s3, s4, s5, s6, s7, s8, s9, s10, s11, s12, s13, s14, s15, s16, s17, s18, s19⟩
               go_simp
               with_reducible rfl
              rotate_left
              ·simp only [Act.put, List.setIfInBounds_toArray, List.set_cons_zero, List.set_cons_succ, i64_w, i32_w]
               rfl
              refine pure_ (i := 12) (N := some 60) (v := ?_) (a' := ?_) #[true, true, true, true, true, true, true, true, true, true, true, true, true, false, false, false, false, false, false, false, false, false, false, false, false, false, false, false, false] rfl rfl (any_of HT_.out (by kernel_rfl)) (fun _ _ _ h => h) (Or.inl ⟨by rfl, ?_⟩) ?_ ?_
              rotate_left
              ·intro w'
               go_simp
               with_reducible rfl
              rotate_left
              ·simp only [Act.put, List.setIfInBounds_toArray, List.set_cons_zero, List.set_cons_succ, i64_w, i32_w]
               rfl
              refine pure_ (i := 13) (N := some 61) (v := ?_) (a' := ?_) #[true, true, true, true, true, true, true, true, true, true, true, true, true, true, false, false, false, false, false, false, false, false, false, false, false, false, false, false, false] rfl rfl (any_of HT_.out (by kernel_rfl)) (fun _ _ _ h => h) (Or.inl ⟨by rfl, ?_⟩) ?_ ?_
              rotate_left
              ·intro w'
               go_simp
               with_reducible rfl
              rotate_left
              ·simp only [Act.put, List.setIfInBounds_toArray, List.set_cons_zero, List.set_cons_succ, i64_w, i32_w]
               rfl
              refine pure_ (i := 14) (N := some 62) (v := ?_) (a' := ?_) #[true, true, true, true, true, true, true, true, true, true, true, true, true, true, true, false, false, false, false, false, false, false, false, false, false, false, false, false, false] rfl rfl (any_of HT_.out (by kernel_rfl)) (fun _ _ _ h => h) (Or.inl ⟨by rfl, ?_⟩) ?_ ?_
              rotate_left
              ·intro w'
               go_simp
               with_reducible rfl
              rotate_left
              ·simp only [Act.put, List.setIfInBounds_toArray, List.set_cons_zero, List.set_cons_succ, i64_w, i32_w]
               rfl
              refine pure_ (i := 16) (N := some 64) (v := ?_) (a' := ?_) #[true, true, true, true, true, true, true, true, true, true, true, true, true, true, true, false, true, false, false, false, false, false, false, false, false, false, false, false, false] rfl rfl (any_of HT_.out (by kernel_rfl)) (fun _ _ _ h => h) (Or.inl ⟨by rfl, ?_⟩) ?_ ?_
              rotate_left
              ·intro w'
               go_simp
               with_reducible rfl
              rotate_left
              ·simp only [Act.put, List.setIfInBounds_toArray, List.set_cons_zero, List.set_cons_succ, i64_w, i32_w]
               rfl
              refine pure_ (i := 20) (N := some 68) (v := ?_) (a' := ?_) #[true, true, true, true, true, true, true, true, true, true, true, true, true, true, true, false, true, false, false, false, true, false, false, false, false, false, false, false, false] rfl rfl (any_of HT_.out (by kernel_rfl)) (fun _ _ _ h => h) (Or.inl ⟨by rfl, ?_⟩) ?_ ?_
              rotate_left
              ·intro w'
               go_simp
               with_reducible rfl
              rotate_left
              ·simp only [Act.put, List.setIfInBounds_toArray, List.set_cons_zero, List.set_cons_succ, i64_w, i32_w]
               rfl
              refine pure_ (i := 22) (N := some 70) (v := ?_) (a' := ?_) #[true, true, true, true, true, true, true, true, true, true, true, true, true, true, true, false, true, false, false, false, true, false, true, false, false, false, false, false, false] rfl rfl (any_of HT_.out (by kernel_rfl)) (fun _ _ _ h => h) (Or.inl ⟨by rfl, ?_⟩) ?_ ?_
              rotate_left
              ·intro w'
               go_simp
               with_reducible rfl
              rotate_left
              ·simp only [Act.put, List.setIfInBounds_toArray, List.set_cons_zero, List.set_cons_succ, i64_w, i32_w]
               rfl
              refine take_ (i := 15) (N := some 63) (v := ?_) (a' := ?_) #[true, true, true, true, true, true, true, true, true, true, true, true, true, true, true, true, true, false, false, false, true, false, true, false, false, false, false, false, false] rfl rfl (take_ofW HT_.out HW_.out (by kernel_rfl)) (fun _ _ _ h => h) (Or.inl ⟨by rfl, ?_⟩) hHeld ?_ ?_
              rotate_left
              ·rintro w' ⟨s0, s1, s2, s3, s4, s5, s6, s7, s8, s9, s10, s11, s12, s13, s14, s15, s16, s17, s18, s19⟩
               go_simp
               with_reducible rfl
              rotate_left
              ·simp only [Act.put, List.setIfInBounds_toArray, List.set_cons_zero, List.set_cons_succ, i64_w, i32_w]
               rfl
              refine pure_ (i := 17) (N := some 65) (v := ?_) (a' := ?_) #[true, true, true, true, true, true, true, true, true, true, true, true, true, true, true, true, true, true, false, false, true, false, true, false, false, false, false, false, false] rfl rfl (any_of HT_.out (by kernel_rfl)) (fun _ _ _ h => h) (Or.inl ⟨by rfl, ?_⟩) ?_ ?_
              rotate_left
              ·intro w'
               go_simp
               with_reducible rfl
              rotate_left
              ·simp only [Act.put, List.setIfInBounds_toArray, List.set_cons_zero, List.set_cons_succ, i64_w, i32_w]
               rfl
              refine pure_ (i := 18) (N := some 66) (v := ?_) (a' := ?_) #[true, true, true, true, true, true, true, true, true, true, true, true, true, true, true, true, true, true, true, false, true, false, true, false, false, false, false, false, false] rfl rfl (any_of HT_.out (by kernel_rfl)) (fun _ _ _ h => h) (Or.inl ⟨by rfl, ?_⟩) ?_ ?_
              rotate_left
              ·intro w'
               go_simp
               with_reducible rfl
              rotate_left
              ·simp only [Act.put, List.setIfInBounds_toArray, List.set_cons_zero, List.set_cons_succ, i64_w, i32_w]
               rfl
              refine take_ (i := 19) (N := some 67) (v := ?_) (a' := ?_) #[true, true, true, true, true, true, true, true, true, true, true, true, true, true, true, true, true, true, true, true, true, false, true, false, false, false, false, false, false] rfl rfl (take_ofW HT_.out HW_.out (by kernel_rfl)) (fun _ _ _ h => h) (Or.inl ⟨by rfl, ?_⟩) hHeld ?_ ?_
              rotate_left
              ·rintro w' ⟨s0, s1, s2, s3, s4, s5, s6, s7, s8, s9, s10, s11, s12, s13, s14, s15, s16, s17, s18, s19⟩
               go_simp
               with_reducible rfl
              rotate_left
              ·simp only [Act.put, List.setIfInBounds_toArray, List.set_cons_zero, List.set_cons_succ, i64_w, i32_w]
               rfl
              refine take_ (i := 21) (N := some 69) (v := ?_) (a' := ?_) #[true, true, true, true, true, true, true, true, true, true, true, true, true, true, true, true, true, true, true, true, true, true, true, false, false, false, false, false, false] rfl rfl (take_ofW HT_.out HW_.out (by kernel_rfl)) (fun _ _ _ h => h) (Or.inl ⟨by rfl, ?_⟩) hHeld ?_ ?_
              rotate_left
              ·rintro w' ⟨s0, s1, s2, s3, s4, s5, s6, s7, s8, s9, s10, s11, s12, s13, s14, s15, s16, s17, s18, s19⟩
               go_simp
               with_reducible rfl
              rotate_left
              ·simp only [Act.put, List.setIfInBounds_toArray, List.set_cons_zero, List.set_cons_succ, i64_w, i32_w]
               rfl
              refine pure_ (i := 23) (N := some 71) (v := ?_) (a' := ?_) #[true, true, true, true, true, true, true, true, true, true, true, true, true, true, true, true, true, true, true, true, true, true, true, true, false, false, false, false, false] rfl rfl (any_of HT_.out (by kernel_rfl)) (fun _ _ _ h => h) (Or.inl ⟨by rfl, ?_⟩) ?_ ?_
              rotate_left
              ·intro w'
               go_simp
               with_reducible rfl
              rotate_left
              ·simp only [Act.put, List.setIfInBounds_toArray, List.set_cons_zero, List.set_cons_succ, i64_w, i32_w]
               rfl
              refine pure_ (i := 24) (N := some 72) (v := ?_) (a' := ?_) #[true, true, true, true, true, true, true, true, true, true, true, true, true, true, true, true, true, true, true, true, true, true, true, true, true, false, false, false, false] rfl rfl (any_of HT_.out (by kernel_rfl)) (fun _ _ _ h => h) (Or.inl ⟨by rfl, ?_⟩) ?_ ?_
              rotate_left
              ·intro w'
               go_simp
               with_reducible rfl
              rotate_left
              ·simp only [Act.put, List.setIfInBounds_toArray, List.set_cons_zero, List.set_cons_succ, i64_w, i32_w]
               rfl
              refine take_ (i := 25) (N := some 73) (v := ?_) (a' := ?_) #[true, true, true, true, true, true, true, true, true, true, true, true, true, true, true, true, true, true, true, true, true, true, true, true, true, true, false, false, false] rfl rfl (take_ofW HT_.out HW_.out (by kernel_rfl)) (fun _ _ _ h => h) (Or.inl ⟨by rfl, ?_⟩) hHeld ?_ ?_
              rotate_left
              ·rintro w' ⟨s0, s1, s2, s3, s4, s5, s6, s7, s8, s9, s10, s11, s12, s13, s14, s15, s16, s17, s18, s19⟩
               go_simp
               with_reducible rfl
              rotate_left
              ·simp only [Act.put, List.setIfInBounds_toArray, List.set_cons_zero, List.set_cons_succ, i64_w, i32_w]
               rfl
              refine one_ (i := 26) (N := some 74) #[true, true, true, true, true, true, true, true, true, true, true, true, true, true, true, true, true, true, true, true, true, true, true, true, true, true, true, false, false] rfl rfl (one_of HT_.out (by kernel_rfl)) (by decide) (fun K hK => ?_)
              refine goes_ Try.func31 (by kernel_rfl) rfl #[.agg #[.bool ((rd_T108 l0_1 x6_3).f1.f0), .string ((rd_T108 l0_1 x6_3).f1.f1), .slice A1060_3 ((rd_T108 l0_1 x6_3).f1.f2).length c1060_3], .agg #[.bool ((rd_T108 l1_1 x6_3).f1.f0), .string ((rd_T108 l1_1 x6_3).f1.f1), .slice A1061_3 ((rd_T108 l1_1 x6_3).f1.f2).length c1061_3]] (by rfl) rfl rfl (by (try simp only [List.map_toArray, List.map_cons, List.map_nil]); first | done | rfl | (simp only [List.length_drop, List.length_take]; rfl)) ?_
              with_reducible refine (sequentref01_Same.calls k3 ((rd_T108 l0_1 x6_3).f1.f0) ((rd_T108 l0_1 x6_3).f1.f1) _ _ ((rd_T108 l0_1 x6_3).f1.f2) ((rd_T108 l1_1 x6_3).f1.f0) ((rd_T108 l1_1 x6_3).f1.f1) _ _ ((rd_T108 l1_1 x6_3).f1.f2) true _ ?side1 ?side2 ?side3 ?side4 A30.out).mono ?_
              (case side1 => repeat (first | exact (Kd.C_below HR1062_3.out HB.out) | (with_reducible refine Kd.C_alloc ?_ _) | (with_reducible refine Kd.C_drewN ?_ _) | (with_reducible refine Kd.C_drew ?_)))
              (case side2 => exact HC1062_3.out)
              (case side3 => repeat (first | exact (Kd.C_below HR1063_3.out HB.out) | (with_reducible refine Kd.C_alloc ?_ _) | (with_reducible refine Kd.C_drewN ?_ _) | (with_reducible refine Kd.C_drew ?_)))
              (case side4 => exact HC1063_3.out)
              rintro e w35 ⟨rfl, hb⟩
              refine ⟨_, rfl, ?_⟩
              have n0_ := Aside0.mk (blk_below (g := gb1056) (o := .cells #[.slice A0_0 l0_0.length c0_0, .slice (some ad1060) l0_1.length c0_1] 94 (0, 0)) (bk_ BK1056) hb)
              have n1_ := Aside0.mk (blk_below (g := gb1057) (o := .cells #[.slice A1_0 l1_0.length c1_0, .slice (some ad1061) l1_1.length c1_1] 94 (0, 0)) (bk_ BK1057) hb)
              have n2_ := Aside0.mk (below_step bel_ hb)
              clear BK1056
              clear BK1057
              clear HB
              have BK1056 := n0_
              have BK1057 := n1_
              have HB := n2_
              clear n0_ n1_ n2_
              (try clear hb)
              (try clear hb2)
              (try clear hk)
              (try clear hi)
              refine hK.out _ _ ⟨(blk_cell BK1056.out 0).trans rfl, (blk_cell BK1056.out 1).trans rfl, (blk_cell BK1057.out 0).trans rfl, (blk_cell BK1057.out 1).trans rfl, (pw_cell_below HB.out hw1060_0), (pw_cell_below HB.out hw1060_1), (pw_cell_below HB.out hw1060_2), (pw_cell_below HB.out hw1060_3), (pw_cell_below HB.out hw1061_0), (pw_cell_below HB.out hw1061_1), (pw_cell_below HB.out hw1061_2), (pw_cell_below HB.out hw1061_3), (pw_cell_below HB.out hw1062_0), (pw_cell_below HB.out hw1062_1), (pw_cell_below HB.out hw1062_2), (pw_cell_below HB.out hw1062_3), (pw_cell_below HB.out hw1063_0), (pw_cell_below HB.out hw1063_1), (pw_cell_below HB.out hw1063_2), (pw_cell_below HB.out hw1063_3)⟩ (fun hHeld => ?_)
              clear hK K
              refine norm_ (a' := ?_) ?_ ?_
              rotate_left
              ·show Act.put _ (some 74) _ = _
               simp only [Act.put, List.setIfInBounds_toArray, List.set_cons_zero, List.set_cons_succ, i64_w, i32_w]
               rfl
              refine pure_ (i := 27) (N := some 75) (v := ?_) (a' := ?_) #[true, true, true, true, true, true, true, true, true, true, true, true, true, true, true, true, true, true, true, true, true, true, true, true, true, true, true, true, false] rfl rfl (any_of HT_.out (by kernel_rfl)) (fun _ _ _ h => h) (Or.inl ⟨by rfl, ?_⟩) ?_ ?_
              rotate_left
              ·intro w'
               go_simp
               with_reducible rfl
              rotate_left
              ·simp only [Act.put, List.setIfInBounds_toArray, List.set_cons_zero, List.set_cons_succ, i64_w, i32_w]
               rfl
              refine pure_ (i := 28) (N := some 76) (v := ?_) (a' := ?_) #[true, true, true, true, true, true, true, true, true, true, true, true, true, true, true, true, true, true, true, true, true, true, true, true, true, true, true, true, true] rfl rfl (any_of HT_.out (by kernel_rfl)) (fun _ _ _ h => h) (Or.inl ⟨by rfl, ?_⟩) ?_ ?_
              rotate_left
              ·intro w'
               go_simp
               with_reducible rfl
              rotate_left
              ·simp only [Act.put, List.setIfInBounds_toArray, List.set_cons_zero, List.set_cons_succ, i64_w, i32_w]
               rfl
              refine done_ (done_of HT_.out (by kernel_rfl)) ?_
              try go_wp2
              go_roundg k3
              case measure => have := HJ2.out; have := HK2.out; have := HK3.out; omega
              case rel => exact ⟨(wrap64 (x6_3 + 1)), (by first | rfl | (simp; done) | (simp [*]; done)), H', ⟨by have := HJ2.out; have := HK2.out; have := HK3.out; omega⟩, ⟨bk_ BK1056⟩, ⟨bk_ BK1057⟩, ⟨bel_⟩⟩
             ·replace c31 := Bool.eq_false_iff.mpr c31
              subst c31
              have H1 : (some false) = some r := by rw [if_neg (show ¬ (false = true) by decide)] at H; exact H
              clear H
              have H := H1
              clear H1
              obtain rfl := Option.some.inj H
              have hnb36 := NB1057_1056.out
              have hnc36 := NB1056_1057.out
              have hcz37_0 : wr.cell? ⟨gb1057, 0, none⟩ = some (.slice A1_0 l1_0.length c1_0) := (blk_cell BK1057.out 0).trans rfl
              have hcz37_1 : wr.cell? ⟨gb1057, 1, none⟩ = some (.slice A1_1 l1_1.length c1_1) := (blk_cell BK1057.out 1).trans rfl
              have hfz37_0 := blk_frozen BK1057.out 0
              have hfz37_1 := blk_frozen BK1057.out 1
              try go_wp2
              have n0_ := Aside0.mk (blk_drew BK1056.out)
              have n1_ := Aside0.mk (blk_drew BK1057.out)
              have n2_ := Aside0.mk (below_drew1 HB.out)
              clear BK1056
              clear BK1057
              clear HB
              have BK1056 := n0_
              have BK1057 := n1_
              have HB := n2_
              clear n0_ n1_ n2_
              have p1060 : 0 ≤ (x6_3 : Int) := dq_
              have q1060 : x6_3 < (l0_1.length : Int) := dq_
              obtain ⟨ad1060, A1060_3, c1060_3, e1060, hx1060_0, hx1060_1, hx1060_2, hx1060_3, hl1060_3, hi1060_3⟩ := at_T108 HR0_1.out x6_3 p1060 q1060
              have hw1060_3 := hx1060_3
              have hw1060_2 := hx1060_2
              have hw1060_1 := hx1060_1
              have hw1060_0 := hx1060_0
              cases e1060
              replace hx1060_0 := pw_cell_below HB.out hx1060_0
              replace hx1060_1 := pw_cell_below HB.out hx1060_1
              replace hx1060_2 := pw_cell_below HB.out hx1060_2
              replace hx1060_3 := pw_cell_below HB.out hx1060_3
              have HR1060_3 := Aside0.mk hi1060_3
              have HC1060_3 := Aside0.mk hl1060_3
              clear hi1060_3 hl1060_3
              replace p1060 := eq_true p1060
              replace q1060 := eq_true q1060
              have p1061 : 0 ≤ (x6_3 : Int) := dq_
              have q1061 : x6_3 < (l1_1.length : Int) := dq_
              obtain ⟨ad1061, A1061_3, c1061_3, e1061, hx1061_0, hx1061_1, hx1061_2, hx1061_3, hl1061_3, hi1061_3⟩ := at_T108 HR1_1.out x6_3 p1061 q1061
              have hw1061_3 := hx1061_3
              have hw1061_2 := hx1061_2
              have hw1061_1 := hx1061_1
              have hw1061_0 := hx1061_0
              cases e1061
              replace hx1061_0 := pw_cell_below HB.out hx1061_0
              replace hx1061_1 := pw_cell_below HB.out hx1061_1
              replace hx1061_2 := pw_cell_below HB.out hx1061_2
              replace hx1061_3 := pw_cell_below HB.out hx1061_3
              have HR1061_3 := Aside0.mk hi1061_3
              have HC1061_3 := Aside0.mk hl1061_3
              clear hi1061_3 hl1061_3
              replace p1061 := eq_true p1061
              replace q1061 := eq_true q1061
              have p1062 : 0 ≤ (x6_3 : Int) := dq_
              have q1062 : x6_3 < (l0_1.length : Int) := dq_
              obtain ⟨ad1062, A1062_3, c1062_3, e1062, hx1062_0, hx1062_1, hx1062_2, hx1062_3, hl1062_3, hi1062_3⟩ := at_T108 HR0_1.out x6_3 p1062 q1062
              have hw1062_3 := hx1062_3
              have hw1062_2 := hx1062_2
              have hw1062_1 := hx1062_1
              have hw1062_0 := hx1062_0
              obtain rfl : ad1060 = ad1062 := (by injection e1062)
              replace hx1062_0 := pw_cell_below HB.out hx1062_0
              replace hx1062_1 := pw_cell_below HB.out hx1062_1
              replace hx1062_2 := pw_cell_below HB.out hx1062_2
              replace hx1062_3 := pw_cell_below HB.out hx1062_3
              have HR1062_3 := Aside0.mk hi1062_3
              have HC1062_3 := Aside0.mk hl1062_3
              clear hi1062_3 hl1062_3
              replace p1062 := eq_true p1062
              replace q1062 := eq_true q1062
              have ea_ := Option.some.inj (hx1060_3.symm.trans hx1062_3)
              injection ea_ with ea_ en_ ec_
              subst ea_
              subst ec_
              clear en_
              have p1063 : 0 ≤ (x6_3 : Int) := dq_
              have q1063 : x6_3 < (l1_1.length : Int) := dq_
              obtain ⟨ad1063, A1063_3, c1063_3, e1063, hx1063_0, hx1063_1, hx1063_2, hx1063_3, hl1063_3, hi1063_3⟩ := at_T108 HR1_1.out x6_3 p1063 q1063
              have hw1063_3 := hx1063_3
              have hw1063_2 := hx1063_2
              have hw1063_1 := hx1063_1
              have hw1063_0 := hx1063_0
              obtain rfl : ad1061 = ad1063 := (by injection e1063)
              replace hx1063_0 := pw_cell_below HB.out hx1063_0
              replace hx1063_1 := pw_cell_below HB.out hx1063_1
              replace hx1063_2 := pw_cell_below HB.out hx1063_2
              replace hx1063_3 := pw_cell_below HB.out hx1063_3
              have HR1063_3 := Aside0.mk hi1063_3
              have HC1063_3 := Aside0.mk hl1063_3
              clear hi1063_3 hl1063_3
              replace p1063 := eq_true p1063
              replace q1063 := eq_true q1063
              have ea_ := Option.some.inj (hx1061_3.symm.trans hx1063_3)
              injection ea_ with ea_ en_ ec_
              subst ea_
              subst ec_
              clear en_
              refine start_ (n := 29) (S := fun w' => w'.cell? ⟨gb1056, 0, none⟩ = some (.slice A0_0 l0_0.length c0_0) ∧ w'.cell? ⟨gb1056, 1, none⟩ = some (.slice (some ad1060) l0_1.length c0_1) ∧ w'.cell? ⟨gb1057, 0, none⟩ = some (.slice A1_0 l1_0.length c1_0) ∧ w'.cell? ⟨gb1057, 1, none⟩ = some (.slice (some ad1061) l1_1.length c1_1) ∧ w'.cell? (ad1060.add ((x6_3).toNat * 4)) = some (.string ((rd_T108 l0_1 x6_3).f0)) ∧ w'.cell? ⟨(ad1060.add ((x6_3).toNat * 4)).block, (ad1060.add ((x6_3).toNat * 4)).off + 1, none⟩ = some (.bool ((rd_T108 l0_1 x6_3).f1.f0)) ∧ w'.cell? ⟨(ad1060.add ((x6_3).toNat * 4)).block, (ad1060.add ((x6_3).toNat * 4)).off + 2, none⟩ = some (.string ((rd_T108 l0_1 x6_3).f1.f1)) ∧ w'.cell? ⟨(ad1060.add ((x6_3).toNat * 4)).block, (ad1060.add ((x6_3).toNat * 4)).off + 3, none⟩ = some (.slice A1060_3 ((rd_T108 l0_1 x6_3).f1.f2).length c1060_3) ∧ w'.cell? (ad1061.add ((x6_3).toNat * 4)) = some (.string ((rd_T108 l1_1 x6_3).f0)) ∧ w'.cell? ⟨(ad1061.add ((x6_3).toNat * 4)).block, (ad1061.add ((x6_3).toNat * 4)).off + 1, none⟩ = some (.bool ((rd_T108 l1_1 x6_3).f1.f0)) ∧ w'.cell? ⟨(ad1061.add ((x6_3).toNat * 4)).block, (ad1061.add ((x6_3).toNat * 4)).off + 2, none⟩ = some (.string ((rd_T108 l1_1 x6_3).f1.f1)) ∧ w'.cell? ⟨(ad1061.add ((x6_3).toNat * 4)).block, (ad1061.add ((x6_3).toNat * 4)).off + 3, none⟩ = some (.slice A1061_3 ((rd_T108 l1_1 x6_3).f1.f2).length c1061_3) ∧ w'.cell? (ad1060.add ((x6_3).toNat * 4)) = some (.string ((rd_T108 l0_1 x6_3).f0)) ∧ w'.cell? ⟨(ad1060.add ((x6_3).toNat * 4)).block, (ad1060.add ((x6_3).toNat * 4)).off + 1, none⟩ = some (.bool ((rd_T108 l0_1 x6_3).f1.f0)) ∧ w'.cell? ⟨(ad1060.add ((x6_3).toNat * 4)).block, (ad1060.add ((x6_3).toNat * 4)).off + 2, none⟩ = some (.string ((rd_T108 l0_1 x6_3).f1.f1)) ∧ w'.cell? ⟨(ad1060.add ((x6_3).toNat * 4)).block, (ad1060.add ((x6_3).toNat * 4)).off + 3, none⟩ = some (.slice A1060_3 ((rd_T108 l0_1 x6_3).f1.f2).length c1060_3) ∧ w'.cell? (ad1061.add ((x6_3).toNat * 4)) = some (.string ((rd_T108 l1_1 x6_3).f0)) ∧ w'.cell? ⟨(ad1061.add ((x6_3).toNat * 4)).block, (ad1061.add ((x6_3).toNat * 4)).off + 1, none⟩ = some (.bool ((rd_T108 l1_1 x6_3).f1.f0)) ∧ w'.cell? ⟨(ad1061.add ((x6_3).toNat * 4)).block, (ad1061.add ((x6_3).toNat * 4)).off + 2, none⟩ = some (.string ((rd_T108 l1_1 x6_3).f1.f1)) ∧ w'.cell? ⟨(ad1061.add ((x6_3).toNat * 4)).block, (ad1061.add ((x6_3).toNat * 4)).off + 3, none⟩ = some (.slice A1061_3 ((rd_T108 l1_1 x6_3).f1.f2).length c1061_3)) (ds := []) #[false, false, false, false, false, false, false, false, false, false, false, false, false, false, false, false, false, false, false, false, false, false, false, false, false, false, false, false, false] (by kernel_rfl) rfl rfl ⟨(blk_cell BK1056.out 0).trans rfl, (blk_cell BK1056.out 1).trans rfl, (blk_cell BK1057.out 0).trans rfl, (blk_cell BK1057.out 1).trans rfl, (pw_cell_below HB.out hw1060_0), (pw_cell_below HB.out hw1060_1), (pw_cell_below HB.out hw1060_2), (pw_cell_below HB.out hw1060_3), (pw_cell_below HB.out hw1061_0), (pw_cell_below HB.out hw1061_1), (pw_cell_below HB.out hw1061_2), (pw_cell_below HB.out hw1061_3), (pw_cell_below HB.out hw1062_0), (pw_cell_below HB.out hw1062_1), (pw_cell_below HB.out hw1062_2), (pw_cell_below HB.out hw1062_3), (pw_cell_below HB.out hw1063_0), (pw_cell_below HB.out hw1063_1), (pw_cell_below HB.out hw1063_2), (pw_cell_below HB.out hw1063_3)⟩ (fun hHeld => ?_); refine with_tabW sequentref04_Extends.tab11 sequentref04_Extends.bits11 (fun HT_ HW_ => ?_)
              generalize wr.drew = w38 at BK1056 BK1057 HB HR1060_3 HR1061_3 HR1062_3 HR1063_3 hx1060_0 hx1060_1 hx1060_2 hx1060_3 hx1061_0 hx1061_1 hx1061_2 hx1061_3 hx1062_0 hx1062_1 hx1062_2 hx1062_3 hx1063_0 hx1063_1 hx1063_2 hx1063_3 hHeld ⊢
              refine pure_ (i := 0) (N := some 48) (v := ?_) (a' := ?_) #[true, false, false, false, false, false, false, false, false, false, false, false, false, false, false, false, false, false, false, false, false, false, false, false, false, false, false, false, false] rfl rfl (any_of HT_.out (by kernel_rfl)) (fun _ _ _ h => h) (Or.inl ⟨by rfl, ?_⟩) ?_ ?_
              rotate_left
              ·intro w'
               go_simp
               with_reducible rfl
              rotate_left
              ·simp only [Act.put, List.setIfInBounds_toArray, List.set_cons_zero, List.set_cons_succ, i64_w, i32_w]
               rfl
              refine pure_ (i := 2) (N := some 50) (v := ?_) (a' := ?_) #[true, false, true, false, false, false, false, false, false, false, false, false, false, false, false, false, false, false, false, false, false, false, false, false, false, false, false, false, false] rfl rfl (any_of HT_.out (by kernel_rfl)) (fun _ _ _ h => h) (Or.inl ⟨by rfl, ?_⟩) ?_ ?_
              rotate_left
              ·intro w'
               go_simp
               with_reducible rfl
              rotate_left
              ·simp only [Act.put, List.setIfInBounds_toArray, List.set_cons_zero, List.set_cons_succ, i64_w, i32_w]
               rfl
              refine pure_ (i := 6) (N := some 54) (v := ?_) (a' := ?_) #[true, false, true, false, false, false, true, false, false, false, false, false, false, false, false, false, false, false, false, false, false, false, false, false, false, false, false, false, false] rfl rfl (any_of HT_.out (by kernel_rfl)) (fun _ _ _ h => h) (Or.inl ⟨by rfl, ?_⟩) ?_ ?_
              rotate_left
              ·intro w'
               go_simp
               with_reducible rfl
              rotate_left
              ·simp only [Act.put, List.setIfInBounds_toArray, List.set_cons_zero, List.set_cons_succ, i64_w, i32_w]
               rfl
              refine pure_ (i := 8) (N := some 56) (v := ?_) (a' := ?_) #[true, false, true, false, false, false, true, false, true, false, false, false, false, false, false, false, false, false, false, false, false, false, false, false, false, false, false, false, false] rfl rfl (any_of HT_.out (by kernel_rfl)) (fun _ _ _ h => h) (Or.inl ⟨by rfl, ?_⟩) ?_ ?_
              rotate_left
              ·intro w'
               go_simp
               with_reducible rfl
              rotate_left
              ·simp only [Act.put, List.setIfInBounds_toArray, List.set_cons_zero, List.set_cons_succ, i64_w, i32_w]
               rfl
              refine take_ (i := 1) (N := some 49) (v := ?_) (a' := ?_) #[true, true, true, false, false, false, true, false, true, false, false, false, false, false, false, false, false, false, false, false, false, false, false, false, false, false, false, false, false] rfl rfl (take_ofW HT_.out HW_.out (by kernel_rfl)) (fun _ _ _ h => h) (Or.inl ⟨by rfl, ?_⟩) hHeld ?_ ?_
              rotate_left
              ·rintro w' ⟨s0, s1, s2, s3, s4, s5, s6, s7, s8, s9, s10, s11, s12, s13, s14, s15, s16, s17, s18, s19⟩
               go_simp
               with_reducible rfl
              rotate_left
              ·simp only [Act.put, List.setIfInBounds_toArray, List.set_cons_zero, List.set_cons_succ, i64_w, i32_w]
               rfl
              refine pure_ (i := 3) (N := some 51) (v := ?_) (a' := ?_) #[true, true, true, true, false, false, true, false, true, false, false, false, false, false, false, false, false, false, false, false, false, false, false, false, false, false, false, false, false] rfl rfl (any_of HT_.out (by kernel_rfl)) (fun _ _ _ h => h) (Or.inl ⟨by rfl, ?_⟩) ?_ ?_
              rotate_left
              ·intro w'
               go_simp
               with_reducible rfl
              rotate_left
              ·simp only [Act.put, List.setIfInBounds_toArray, List.set_cons_zero, List.set_cons_succ, i64_w, i32_w]
               rfl
              refine pure_ (i := 4) (N := some 52) (v := ?_) (a' := ?_) #[true, true, true, true, true, false, true, false, true, false, false, false, false, false, false, false, false, false, false, false, false, false, false, false, false, false, false, false, false] rfl rfl (any_of HT_.out (by kernel_rfl)) (fun _ _ _ h => h) (Or.inl ⟨by rfl, ?_⟩) ?_ ?_
              rotate_left
              ·intro w'
               go_simp
               with_reducible rfl
              rotate_left
              ·simp only [Act.put, List.setIfInBounds_toArray, List.set_cons_zero, List.set_cons_succ, i64_w, i32_w]
               rfl
              refine take_ (i := 5) (N := some 53) (v := ?_) (a' := ?_) #[true, true, true, true, true, true, true, false, true, false, false, false, false, false, false, false, false, false, false, false, false, false, false, false, false, false, false, false, false] rfl rfl (take_ofW HT_.out HW_.out (by kernel_rfl)) (fun _ _ _ h => h) (Or.inl ⟨by rfl, ?_⟩) hHeld ?_ ?_
              rotate_left
              ·rintro w' ⟨s0, s1, s2, s3, s4, s5, s6, s7, s8, s9, s10, s11, s12, s13, s14, s15, s16, s17, s18, s19⟩
               go_simp
               with_reducible rfl
              rotate_left
              ·simp only [Act.put, List.setIfInBounds_toArray, List.set_cons_zero, List.set_cons_succ, i64_w, i32_w]
               rfl
              refine take_ (i := 7) (N := some 55) (v := ?_) (a' := ?_) #[true, true, true, true, true, true, true, true, true, false, false, false, false, false, false, false, false, false, false, false, false, false, false, false, false, false, false, false, false] rfl rfl (take_ofW HT_.out HW_.out (by kernel_rfl)) (fun _ _ _ h => h) (Or.inl ⟨by rfl, ?_⟩) hHeld ?_ ?_
              rotate_left
              ·rintro w' ⟨s0, s1, s2, s3, s4, s5, s6, s7, s8, s9, s10, s11, s12, s13, s14, s15, s16, s17, s18, s19⟩
               go_simp
               with_reducible rfl
              rotate_left
              ·simp only [Act.put, List.setIfInBounds_toArray, List.set_cons_zero, List.set_cons_succ, i64_w, i32_w]
               rfl
              refine pure_ (i := 9) (N := some 57) (v := ?_) (a' := ?_) #[true, true, true, true, true, true, true, true, true, true, false, false, false, false, false, false, false, false, false, false, false, false, false, false, false, false, false, false, false] rfl rfl (any_of HT_.out (by kernel_rfl)) (fun _ _ _ h => h) (Or.inl ⟨by rfl, ?_⟩) ?_ ?_
              rotate_left
              ·intro w'
               go_simp
               with_reducible rfl
              rotate_left
              ·simp only [Act.put, List.setIfInBounds_toArray, List.set_cons_zero, List.set_cons_succ, i64_w, i32_w]
               rfl
              refine pure_ (i := 10) (N := some 58) (v := ?_) (a' := ?_) #[true, true, true, true, true, true, true, true, true, true, true, false, false, false, false, false, false, false, false, false, false, false, false, false, false, false, false, false, false] rfl rfl (any_of HT_.out (by kernel_rfl)) (fun _ _ _ h => h) (Or.inl ⟨by rfl, ?_⟩) ?_ ?_
              rotate_left
              ·intro w'
               go_simp
               with_reducible rfl
              rotate_left
              ·simp only [Act.put, List.setIfInBounds_toArray, List.set_cons_zero, List.set_cons_succ, i64_w, i32_w]
               rfl
              refine take_ (i := 11) (N := some 59) (v := ?_) (a' := ?_) #[true, true, true, true, true, true, true, true, true, true, true, true, false, false, false, false, false, false, false, false, false, false, false, false, false, false, false, false, false] rfl rfl (take_ofW HT_.out HW_.out (by kernel_rfl)) (fun _ _ _ h => h) (Or.inl ⟨by rfl, ?_⟩) hHeld ?_ ?_
              rotate_left
              ·rintro w' ⟨s0, s1, s2, s3, s4, s5, s6, s7, s8, s9, s10, s11, s12, s13, s14, s15, s16, s17, s18, s19⟩
               go_simp
               with_reducible rfl
              rotate_left
              ·simp only [Act.put, List.setIfInBounds_toArray, List.set_cons_zero, List.set_cons_succ, i64_w, i32_w]
               rfl
              refine pure_ (i := 12) (N := some 60) (v := ?_) (a' := ?_) #[true, true, true, true, true, true, true, true, true, true, true, true, true, false, false, false, false, false, false, false, false, false, false, false, false, false, false, false, false] rfl rfl (any_of HT_.out (by kernel_rfl)) (fun _ _ _ h => h) (Or.inl ⟨by rfl, ?_⟩) ?_ ?_
              rotate_left
              ·intro w'
               go_simp
               with_reducible rfl
              rotate_left
              ·simp only [Act.put, List.setIfInBounds_toArray, List.set_cons_zero, List.set_cons_succ, i64_w, i32_w]
               rfl
              refine pure_ (i := 13) (N := some 61) (v := ?_) (a' := ?_) #[true, true, true, true, true, true, true, true, true, true, true, true, true, true, false, false, false, false, false, false, false, false, false, false, false, false, false, false, false] rfl rfl (any_of HT_.out (by kernel_rfl)) (fun _ _ _ h => h) (Or.inl ⟨by rfl, ?_⟩) ?_ ?_
              rotate_left
              ·intro w'
               go_simp
               with_reducible rfl
              rotate_left
              ·simp only [Act.put, List.setIfInBounds_toArray, List.set_cons_zero, List.set_cons_succ, i64_w, i32_w]
               rfl
              refine pure_ (i := 14) (N := some 62) (v := ?_) (a' := ?_) #[true, true, true, true, true, true, true, true, true, true, true, true, true, true, true, false, false, false, false, false, false, false, false, false, false, false, false, false, false] rfl rfl (any_of HT_.out (by kernel_rfl)) (fun _ _ _ h => h) (Or.inl ⟨by rfl, ?_⟩) ?_ ?_
              rotate_left
              ·intro w'
               go_simp
               with_reducible rfl
              rotate_left
              ·simp only [Act.put, List.setIfInBounds_toArray, List.set_cons_zero, List.set_cons_succ, i64_w, i32_w]
               rfl
              refine pure_ (i := 16) (N := some 64) (v := ?_) (a' := ?_) #[true, true, true, true, true, true, true, true, true, true, true, true, true, true, true, false, true, false, false, false, false, false, false, false, false, false, false, false, false] rfl rfl (any_of HT_.out (by kernel_rfl)) (fun _ _ _ h => h) (Or.inl ⟨by rfl, ?_⟩) ?_ ?_
              rotate_left
              ·intro w'
               go_simp
               with_reducible rfl
              rotate_left
              ·simp only [Act.put, List.setIfInBounds_toArray, List.set_cons_zero, List.set_cons_succ, i64_w, i32_w]
               rfl
              refine pure_ (i := 20) (N := some 68) (v := ?_) (a' := ?_) #[true, true, true, true, true, true, true, true, true, true, true, true, true, true, true, false, true, false, false, false, true, false, false, false, false, false, false, false, false] rfl rfl (any_of HT_.out (by kernel_rfl)) (fun _ _ _ h => h) (Or.inl ⟨by rfl, ?_⟩) ?_ ?_
              rotate_left
              ·intro w'
               go_simp
               with_reducible rfl
              rotate_left
              ·simp only [Act.put, List.setIfInBounds_toArray, List.set_cons_zero, List.set_cons_succ, i64_w, i32_w]
               rfl
              refine pure_ (i := 22) (N := some 70) (v := ?_) (a' := ?_) #[true, true, true, true, true, true, true, true, true, true, true, true, true, true, true, false, true, false, false, false, true, false, true, false, false, false, false, false, false] rfl rfl (any_of HT_.out (by kernel_rfl)) (fun _ _ _ h => h) (Or.inl ⟨by rfl, ?_⟩) ?_ ?_
              rotate_left
              ·intro w'
               go_simp
               with_reducible rfl
              rotate_left
              ·simp only [Act.put, List.setIfInBounds_toArray, List.set_cons_zero, List.set_cons_succ, i64_w, i32_w]
               rfl
              refine take_ (i := 15) (N := some 63) (v := ?_) (a' := ?_) #[true, true, true, true, true, true, true, true, true, true, true, true, true, true, true, true, true, false, false, false, true, false, true, false, false, false, false, false, false] rfl rfl (take_ofW HT_.out HW_.out (by kernel_rfl)) (fun _ _ _ h => h) (Or.inl ⟨by rfl, ?_⟩) hHeld ?_ ?_
              rotate_left
              ·rintro w' ⟨s0, s1, s2, s3, s4, s5, s6, s7, s8, s9, s10, s11, s12, s13, s14, s15, s16, s17, s18, s19⟩
               go_simp
               with_reducible rfl
              rotate_left
              ·simp only [Act.put, List.setIfInBounds_toArray, List.set_cons_zero, List.set_cons_succ, i64_w, i32_w]
               rfl
              refine pure_ (i := 17) (N := some 65) (v := ?_) (a' := ?_) #[true, true, true, true, true, true, true, true, true, true, true, true, true, true, true, true, true, true, false, false, true, false, true, false, false, false, false, false, false] rfl rfl (any_of HT_.out (by kernel_rfl)) (fun _ _ _ h => h) (Or.inl ⟨by rfl, ?_⟩) ?_ ?_
              rotate_left
              ·intro w'
               go_simp
               with_reducible rfl
              rotate_left
              ·simp only [Act.put, List.setIfInBounds_toArray, List.set_cons_zero, List.set_cons_succ, i64_w, i32_w]
               rfl
              refine pure_ (i := 18) (N := some 66) (v := ?_) (a' := ?_) #[true, true, true, true, true, true, true, true, true, true, true, true, true, true, true, true, true, true, true, false, true, false, true, false, false, false, false, false, false] rfl rfl (any_of HT_.out (by kernel_rfl)) (fun _ _ _ h => h) (Or.inl ⟨by rfl, ?_⟩) ?_ ?_
              rotate_left
              ·intro w'
               go_simp
               with_reducible rfl
              rotate_left
              ·simp only [Act.put, List.setIfInBounds_toArray, List.set_cons_zero, List.set_cons_succ, i64_w, i32_w]
               rfl
              refine take_ (i := 19) (N := some 67) (v := ?_) (a' := ?_) #[true, true, true, true, true, true, true, true, true, true, true, true, true, true, true, true, true, true, true, true, true, false, true, false, false, false, false, false, false] rfl rfl (take_ofW HT_.out HW_.out (by kernel_rfl)) (fun _ _ _ h => h) (Or.inl ⟨by rfl, ?_⟩) hHeld ?_ ?_
              rotate_left
              ·rintro w' ⟨s0, s1, s2, s3, s4, s5, s6, s7, s8, s9, s10, s11, s12, s13, s14, s15, s16, s17, s18, s19⟩
               go_simp
               with_reducible rfl
              rotate_left
              ·simp only [Act.put, List.setIfInBounds_toArray, List.set_cons_zero, List.set_cons_succ, i64_w, i32_w]
               rfl
              refine take_ (i := 21) (N := some 69) (v := ?_) (a' := ?_) #[true, true, true, true, true, true, true, true, true, true, true, true, true, true, true, true, true, true, true, true, true, true, true, false, false, false, false, false, false] rfl rfl (take_ofW HT_.out HW_.out (by kernel_rfl)) (fun _ _ _ h => h) (Or.inl ⟨by rfl, ?_⟩) hHeld ?_ ?_
              rotate_left
              ·rintro w' ⟨s0, s1, s2, s3, s4, s5, s6, s7, s8, s9, s10, s11, s12, s13, s14, s15, s16, s17, s18, s19⟩
               go_simp
               with_reducible rfl
              rotate_left
              ·simp only [Act.put, List.setIfInBounds_toArray, List.set_cons_zero, List.set_cons_succ, i64_w, i32_w]
               rfl
              refine pure_ (i := 23) (N := some 71) (v := ?_) (a' := ?_) #[true, true, true, true, true, true, true, true, true, true, true, true, true, true, true, true, true, true, true, true, true, true, true, true, false, false, false, false, false] rfl rfl (any_of HT_.out (by kernel_rfl)) (fun _ _ _ h => h) (Or.inl ⟨by rfl, ?_⟩) ?_ ?_
              rotate_left
              ·intro w'
               go_simp
               with_reducible rfl
              rotate_left
              ·simp only [Act.put, List.setIfInBounds_toArray, List.set_cons_zero, List.set_cons_succ, i64_w, i32_w]
               rfl
              refine pure_ (i := 24) (N := some 72) (v := ?_) (a' := ?_) #[true, true, true, true, true, true, true, true, true, true, true, true, true, true, true, true, true, true, true, true, true, true, true, true, true, false, false, false, false] rfl rfl (any_of HT_.out (by kernel_rfl)) (fun _ _ _ h => h) (Or.inl ⟨by rfl, ?_⟩) ?_ ?_
              rotate_left
              ·intro w'
               go_simp
               with_reducible rfl
              rotate_left
              ·simp only [Act.put, List.setIfInBounds_toArray, List.set_cons_zero, List.set_cons_succ, i64_w, i32_w]
               rfl
              refine take_ (i := 25) (N := some 73) (v := ?_) (a' := ?_) #[true, true, true, true, true, true, true, true, true, true, true, true, true, true, true, true, true, true, true, true, true, true, true, true, true, true, false, false, false] rfl rfl (take_ofW HT_.out HW_.out (by kernel_rfl)) (fun _ _ _ h => h) (Or.inl ⟨by rfl, ?_⟩) hHeld ?_ ?_
              rotate_left
              ·rintro w' ⟨s0, s1, s2, s3, s4, s5, s6, s7, s8, s9, s10, s11, s12, s13, s14, s15, s16, s17, s18, s19⟩
               go_simp
               with_reducible rfl
              rotate_left
              ·simp only [Act.put, List.setIfInBounds_toArray, List.set_cons_zero, List.set_cons_succ, i64_w, i32_w]
               rfl
              refine one_ (i := 26) (N := some 74) #[true, true, true, true, true, true, true, true, true, true, true, true, true, true, true, true, true, true, true, true, true, true, true, true, true, true, true, false, false] rfl rfl (one_of HT_.out (by kernel_rfl)) (by decide) (fun K hK => ?_)
              refine goes_ Try.func31 (by kernel_rfl) rfl #[.agg #[.bool ((rd_T108 l0_1 x6_3).f1.f0), .string ((rd_T108 l0_1 x6_3).f1.f1), .slice A1060_3 ((rd_T108 l0_1 x6_3).f1.f2).length c1060_3], .agg #[.bool ((rd_T108 l1_1 x6_3).f1.f0), .string ((rd_T108 l1_1 x6_3).f1.f1), .slice A1061_3 ((rd_T108 l1_1 x6_3).f1.f2).length c1061_3]] (by rfl) rfl rfl (by (try simp only [List.map_toArray, List.map_cons, List.map_nil]); first | done | rfl | (simp only [List.length_drop, List.length_take]; rfl)) ?_
              with_reducible refine (sequentref01_Same.calls k3 ((rd_T108 l0_1 x6_3).f1.f0) ((rd_T108 l0_1 x6_3).f1.f1) _ _ ((rd_T108 l0_1 x6_3).f1.f2) ((rd_T108 l1_1 x6_3).f1.f0) ((rd_T108 l1_1 x6_3).f1.f1) _ _ ((rd_T108 l1_1 x6_3).f1.f2) false _ ?side1 ?side2 ?side3 ?side4 A30.out).mono ?_
              (case side1 => repeat (first | exact (Kd.C_below HR1062_3.out HB.out) | (with_reducible refine Kd.C_alloc ?_ _) | (with_reducible refine Kd.C_drewN ?_ _) | (with_reducible refine Kd.C_drew ?_)))
              (case side2 => exact HC1062_3.out)
              (case side3 => repeat (first | exact (Kd.C_below HR1063_3.out HB.out) | (with_reducible refine Kd.C_alloc ?_ _) | (with_reducible refine Kd.C_drewN ?_ _) | (with_reducible refine Kd.C_drew ?_)))
              (case side4 => exact HC1063_3.out)
              rintro e w39 ⟨rfl, hb⟩
              refine ⟨_, rfl, ?_⟩
              have n0_ := Aside0.mk (blk_below (g := gb1056) (o := .cells #[.slice A0_0 l0_0.length c0_0, .slice (some ad1060) l0_1.length c0_1] 94 (0, 0)) (bk_ BK1056) hb)
              have n1_ := Aside0.mk (blk_below (g := gb1057) (o := .cells #[.slice A1_0 l1_0.length c1_0, .slice (some ad1061) l1_1.length c1_1] 94 (0, 0)) (bk_ BK1057) hb)
              have n2_ := Aside0.mk (below_step bel_ hb)
              clear BK1056
              clear BK1057
              clear HB
              have BK1056 := n0_
              have BK1057 := n1_
              have HB := n2_
              clear n0_ n1_ n2_
              (try clear hb)
              (try clear hb2)
              (try clear hk)
              (try clear hi)
              refine hK.out _ _ ⟨(blk_cell BK1056.out 0).trans rfl, (blk_cell BK1056.out 1).trans rfl, (blk_cell BK1057.out 0).trans rfl, (blk_cell BK1057.out 1).trans rfl, (pw_cell_below HB.out hw1060_0), (pw_cell_below HB.out hw1060_1), (pw_cell_below HB.out hw1060_2), (pw_cell_below HB.out hw1060_3), (pw_cell_below HB.out hw1061_0), (pw_cell_below HB.out hw1061_1), (pw_cell_below HB.out hw1061_2), (pw_cell_below HB.out hw1061_3), (pw_cell_below HB.out hw1062_0), (pw_cell_below HB.out hw1062_1), (pw_cell_below HB.out hw1062_2), (pw_cell_below HB.out hw1062_3), (pw_cell_below HB.out hw1063_0), (pw_cell_below HB.out hw1063_1), (pw_cell_below HB.out hw1063_2), (pw_cell_below HB.out hw1063_3)⟩ (fun hHeld => ?_)
              clear hK K
              refine norm_ (a' := ?_) ?_ ?_
              rotate_left
              ·show Act.put _ (some 74) _ = _
               simp only [Act.put, List.setIfInBounds_toArray, List.set_cons_zero, List.set_cons_succ, i64_w, i32_w]
               rfl
              refine pure_ (i := 27) (N := some 75) (v := ?_) (a' := ?_) #[true, true, true, true, true, true, true, true, true, true, true, true, true, true, true, true, true, true, true, true, true, true, true, true, true, true, true, true, false] rfl rfl (any_of HT_.out (by kernel_rfl)) (fun _ _ _ h => h) (Or.inl ⟨by rfl, ?_⟩) ?_ ?_
              rotate_left
              ·intro w'
               go_simp
               with_reducible rfl
              rotate_left
              ·simp only [Act.put, List.setIfInBounds_toArray, List.set_cons_zero, List.set_cons_succ, i64_w, i32_w]
               rfl
              refine pure_ (i := 28) (N := some 76) (v := ?_) (a' := ?_) #[true, true, true, true, true, true, true, true, true, true, true, true, true, true, true, true, true, true, true, true, true, true, true, true, true, true, true, true, true] rfl rfl (any_of HT_.out (by kernel_rfl)) (fun _ _ _ h => h) (Or.inl ⟨by rfl, ?_⟩) ?_ ?_
              rotate_left
              ·intro w'
               go_simp
               with_reducible rfl
              rotate_left
              ·simp only [Act.put, List.setIfInBounds_toArray, List.set_cons_zero, List.set_cons_succ, i64_w, i32_w]
               rfl
              refine done_ (done_of HT_.out (by kernel_rfl)) ?_
              try go_wp2
              go_ret
              exact ⟨by first | rfl | (simp [errW_none, errW_some] <;> rfl) | (simp [*, errW_none, errW_some] <;> rfl), bel_⟩
            ·rw [if_neg c29] at H
             have c29b0 : (((rd_T108 l0_1 x6_3).f0).toList == ((rd_T108 l1_1 x6_3).f0).toList) = false := beq_eq_false_iff_ne.mpr c29
             have c29b1 : (((rd_T108 l0_1 x6_3).f0).toList != ((rd_T108 l1_1 x6_3).f0).toList) = true := bne_iff_ne.mpr c29
             obtain rfl := Option.some.inj H
             have hnb40 := NB1057_1056.out
             have hnc40 := NB1056_1057.out
             have hcz41_0 : wr.cell? ⟨gb1057, 0, none⟩ = some (.slice A1_0 l1_0.length c1_0) := (blk_cell BK1057.out 0).trans rfl
             have hcz41_1 : wr.cell? ⟨gb1057, 1, none⟩ = some (.slice A1_1 l1_1.length c1_1) := (blk_cell BK1057.out 1).trans rfl
             have hfz41_0 := blk_frozen BK1057.out 0
             have hfz41_1 := blk_frozen BK1057.out 1
             try go_wp2
             have n0_ := Aside0.mk (blk_drew BK1056.out)
             have n1_ := Aside0.mk (blk_drew BK1057.out)
             have n2_ := Aside0.mk (below_drew1 HB.out)
             clear BK1056
             clear BK1057
             clear HB
             have BK1056 := n0_
             have BK1057 := n1_
             have HB := n2_
             clear n0_ n1_ n2_
             have p1060 : 0 ≤ (x6_3 : Int) := dq_
             have q1060 : x6_3 < (l0_1.length : Int) := dq_
             obtain ⟨ad1060, A1060_3, c1060_3, e1060, hx1060_0, hx1060_1, hx1060_2, hx1060_3, hl1060_3, hi1060_3⟩ := at_T108 HR0_1.out x6_3 p1060 q1060
             have hw1060_3 := hx1060_3
             have hw1060_2 := hx1060_2
             have hw1060_1 := hx1060_1
             have hw1060_0 := hx1060_0
             cases e1060
             replace hx1060_0 := pw_cell_below HB.out hx1060_0
             replace hx1060_1 := pw_cell_below HB.out hx1060_1
             replace hx1060_2 := pw_cell_below HB.out hx1060_2
             replace hx1060_3 := pw_cell_below HB.out hx1060_3
             have HR1060_3 := Aside0.mk hi1060_3
             have HC1060_3 := Aside0.mk hl1060_3
             clear hi1060_3 hl1060_3
             replace p1060 := eq_true p1060
             replace q1060 := eq_true q1060
             have p1061 : 0 ≤ (x6_3 : Int) := dq_
             have q1061 : x6_3 < (l1_1.length : Int) := dq_
             obtain ⟨ad1061, A1061_3, c1061_3, e1061, hx1061_0, hx1061_1, hx1061_2, hx1061_3, hl1061_3, hi1061_3⟩ := at_T108 HR1_1.out x6_3 p1061 q1061
             have hw1061_3 := hx1061_3
             have hw1061_2 := hx1061_2
             have hw1061_1 := hx1061_1
             have hw1061_0 := hx1061_0
             cases e1061
             replace hx1061_0 := pw_cell_below HB.out hx1061_0
             replace hx1061_1 := pw_cell_below HB.out hx1061_1
             replace hx1061_2 := pw_cell_below HB.out hx1061_2
             replace hx1061_3 := pw_cell_below HB.out hx1061_3
             have HR1061_3 := Aside0.mk hi1061_3
             have HC1061_3 := Aside0.mk hl1061_3
             clear hi1061_3 hl1061_3
             replace p1061 := eq_true p1061
             replace q1061 := eq_true q1061
             refine start_ (n := 29) (S := fun w' => w'.cell? ⟨gb1056, 0, none⟩ = some (.slice A0_0 l0_0.length c0_0) ∧ w'.cell? ⟨gb1056, 1, none⟩ = some (.slice (some ad1060) l0_1.length c0_1) ∧ w'.cell? ⟨gb1057, 0, none⟩ = some (.slice A1_0 l1_0.length c1_0) ∧ w'.cell? ⟨gb1057, 1, none⟩ = some (.slice (some ad1061) l1_1.length c1_1) ∧ w'.cell? (ad1060.add ((x6_3).toNat * 4)) = some (.string ((rd_T108 l0_1 x6_3).f0)) ∧ w'.cell? ⟨(ad1060.add ((x6_3).toNat * 4)).block, (ad1060.add ((x6_3).toNat * 4)).off + 1, none⟩ = some (.bool ((rd_T108 l0_1 x6_3).f1.f0)) ∧ w'.cell? ⟨(ad1060.add ((x6_3).toNat * 4)).block, (ad1060.add ((x6_3).toNat * 4)).off + 2, none⟩ = some (.string ((rd_T108 l0_1 x6_3).f1.f1)) ∧ w'.cell? ⟨(ad1060.add ((x6_3).toNat * 4)).block, (ad1060.add ((x6_3).toNat * 4)).off + 3, none⟩ = some (.slice A1060_3 ((rd_T108 l0_1 x6_3).f1.f2).length c1060_3) ∧ w'.cell? (ad1061.add ((x6_3).toNat * 4)) = some (.string ((rd_T108 l1_1 x6_3).f0)) ∧ w'.cell? ⟨(ad1061.add ((x6_3).toNat * 4)).block, (ad1061.add ((x6_3).toNat * 4)).off + 1, none⟩ = some (.bool ((rd_T108 l1_1 x6_3).f1.f0)) ∧ w'.cell? ⟨(ad1061.add ((x6_3).toNat * 4)).block, (ad1061.add ((x6_3).toNat * 4)).off + 2, none⟩ = some (.string ((rd_T108 l1_1 x6_3).f1.f1)) ∧ w'.cell? ⟨(ad1061.add ((x6_3).toNat * 4)).block, (ad1061.add ((x6_3).toNat * 4)).off + 3, none⟩ = some (.slice A1061_3 ((rd_T108 l1_1 x6_3).f1.f2).length c1061_3)) (ds := []) #[false, false, false, false, false, false, false, false, false, false, false, false, false, false, false, false, false, false, false, false, false, false, false, false, false, false, false, false, false] (by kernel_rfl) rfl rfl ⟨(blk_cell BK1056.out 0).trans rfl, (blk_cell BK1056.out 1).trans rfl, (blk_cell BK1057.out 0).trans rfl, (blk_cell BK1057.out 1).trans rfl, (pw_cell_below HB.out hw1060_0), (pw_cell_below HB.out hw1060_1), (pw_cell_below HB.out hw1060_2), (pw_cell_below HB.out hw1060_3), (pw_cell_below HB.out hw1061_0), (pw_cell_below HB.out hw1061_1), (pw_cell_below HB.out hw1061_2), (pw_cell_below HB.out hw1061_3)⟩ (fun hHeld => ?_); refine with_tabW sequentref04_Extends.tab11 sequentref04_Extends.bits11 (fun HT_ HW_ => ?_)
             generalize wr.drew = w42 at BK1056 BK1057 HB HR1060_3 HR1061_3 hx1060_0 hx1060_1 hx1060_2 hx1060_3 hx1061_0 hx1061_1 hx1061_2 hx1061_3 hHeld ⊢
             refine pure_ (i := 0) (N := some 48) (v := ?_) (a' := ?_) #[true, false, false, false, false, false, false, false, false, false, false, false, false, false, false, false, false, false, false, false, false, false, false, false, false, false, false, false, false] rfl rfl (any_of HT_.out (by kernel_rfl)) (fun _ _ _ h => h) (Or.inl ⟨by rfl, ?_⟩) ?_ ?_
             rotate_left
             ·intro w'
              go_simp
              with_reducible rfl
             rotate_left
             ·simp only [Act.put, List.setIfInBounds_toArray, List.set_cons_zero, List.set_cons_succ, i64_w, i32_w]
              rfl
             refine pure_ (i := 2) (N := some 50) (v := ?_) (a' := ?_) #[true, false, true, false, false, false, false, false, false, false, false, false, false, false, false, false, false, false, false, false, false, false, false, false, false, false, false, false, false] rfl rfl (any_of HT_.out (by kernel_rfl)) (fun _ _ _ h => h) (Or.inl ⟨by rfl, ?_⟩) ?_ ?_
             rotate_left
             ·intro w'
              go_simp
              with_reducible rfl
             rotate_left
             ·simp only [Act.put, List.setIfInBounds_toArray, List.set_cons_zero, List.set_cons_succ, i64_w, i32_w]
              rfl
             refine pure_ (i := 6) (N := some 54) (v := ?_) (a' := ?_) #[true, false, true, false, false, false, true, false, false, false, false, false, false, false, false, false, false, false, false, false, false, false, false, false, false, false, false, false, false] rfl rfl (any_of HT_.out (by kernel_rfl)) (fun _ _ _ h => h) (Or.inl ⟨by rfl, ?_⟩) ?_ ?_
             rotate_left
             ·intro w'
              go_simp
              with_reducible rfl
             rotate_left
             ·simp only [Act.put, List.setIfInBounds_toArray, List.set_cons_zero, List.set_cons_succ, i64_w, i32_w]
              rfl
             refine pure_ (i := 8) (N := some 56) (v := ?_) (a' := ?_) #[true, false, true, false, false, false, true, false, true, false, false, false, false, false, false, false, false, false, false, false, false, false, false, false, false, false, false, false, false] rfl rfl (any_of HT_.out (by kernel_rfl)) (fun _ _ _ h => h) (Or.inl ⟨by rfl, ?_⟩) ?_ ?_
             rotate_left
             ·intro w'
              go_simp
              with_reducible rfl
             rotate_left
             ·simp only [Act.put, List.setIfInBounds_toArray, List.set_cons_zero, List.set_cons_succ, i64_w, i32_w]
              rfl
             refine take_ (i := 1) (N := some 49) (v := ?_) (a' := ?_) #[true, true, true, false, false, false, true, false, true, false, false, false, false, false, false, false, false, false, false, false, false, false, false, false, false, false, false, false, false] rfl rfl (take_ofW HT_.out HW_.out (by kernel_rfl)) (fun _ _ _ h => h) (Or.inl ⟨by rfl, ?_⟩) hHeld ?_ ?_
             rotate_left
             ·rintro w' ⟨s0, s1, s2, s3, s4, s5, s6, s7, s8, s9, s10, s11⟩
              go_simp
              with_reducible rfl
             rotate_left
             ·simp only [Act.put, List.setIfInBounds_toArray, List.set_cons_zero, List.set_cons_succ, i64_w, i32_w]
              rfl
             refine pure_ (i := 3) (N := some 51) (v := ?_) (a' := ?_) #[true, true, true, true, false, false, true, false, true, false, false, false, false, false, false, false, false, false, false, false, false, false, false, false, false, false, false, false, false] rfl rfl (any_of HT_.out (by kernel_rfl)) (fun _ _ _ h => h) (Or.inl ⟨by rfl, ?_⟩) ?_ ?_
             rotate_left
             ·intro w'
              go_simp
              with_reducible rfl
             rotate_left
             ·simp only [Act.put, List.setIfInBounds_toArray, List.set_cons_zero, List.set_cons_succ, i64_w, i32_w]
              rfl
             refine pure_ (i := 4) (N := some 52) (v := ?_) (a' := ?_) #[true, true, true, true, true, false, true, false, true, false, false, false, false, false, false, false, false, false, false, false, false, false, false, false, false, false, false, false, false] rfl rfl (any_of HT_.out (by kernel_rfl)) (fun _ _ _ h => h) (Or.inl ⟨by rfl, ?_⟩) ?_ ?_
             rotate_left
             ·intro w'
              go_simp
              with_reducible rfl
             rotate_left
             ·simp only [Act.put, List.setIfInBounds_toArray, List.set_cons_zero, List.set_cons_succ, i64_w, i32_w]
              rfl
             refine take_ (i := 5) (N := some 53) (v := ?_) (a' := ?_) #[true, true, true, true, true, true, true, false, true, false, false, false, false, false, false, false, false, false, false, false, false, false, false, false, false, false, false, false, false] rfl rfl (take_ofW HT_.out HW_.out (by kernel_rfl)) (fun _ _ _ h => h) (Or.inl ⟨by rfl, ?_⟩) hHeld ?_ ?_
             rotate_left
             ·rintro w' ⟨s0, s1, s2, s3, s4, s5, s6, s7, s8, s9, s10, s11⟩
              go_simp
              with_reducible rfl
             rotate_left
             ·simp only [Act.put, List.setIfInBounds_toArray, List.set_cons_zero, List.set_cons_succ, i64_w, i32_w]
              rfl
             refine take_ (i := 7) (N := some 55) (v := ?_) (a' := ?_) #[true, true, true, true, true, true, true, true, true, false, false, false, false, false, false, false, false, false, false, false, false, false, false, false, false, false, false, false, false] rfl rfl (take_ofW HT_.out HW_.out (by kernel_rfl)) (fun _ _ _ h => h) (Or.inl ⟨by rfl, ?_⟩) hHeld ?_ ?_
             rotate_left
             ·rintro w' ⟨s0, s1, s2, s3, s4, s5, s6, s7, s8, s9, s10, s11⟩
              go_simp
              with_reducible rfl
             rotate_left
             ·simp only [Act.put, List.setIfInBounds_toArray, List.set_cons_zero, List.set_cons_succ, i64_w, i32_w]
              rfl
             refine pure_ (i := 9) (N := some 57) (v := ?_) (a' := ?_) #[true, true, true, true, true, true, true, true, true, true, false, false, false, false, false, false, false, false, false, false, false, false, false, false, false, false, false, false, false] rfl rfl (any_of HT_.out (by kernel_rfl)) (fun _ _ _ h => h) (Or.inl ⟨by rfl, ?_⟩) ?_ ?_
             rotate_left
             ·intro w'
              go_simp
              with_reducible rfl
             rotate_left
             ·simp only [Act.put, List.setIfInBounds_toArray, List.set_cons_zero, List.set_cons_succ, i64_w, i32_w]
              rfl
             refine pure_ (i := 10) (N := some 58) (v := ?_) (a' := ?_) #[true, true, true, true, true, true, true, true, true, true, true, false, false, false, false, false, false, false, false, false, false, false, false, false, false, false, false, false, false] rfl rfl (any_of HT_.out (by kernel_rfl)) (fun _ _ _ h => h) (Or.inl ⟨by rfl, ?_⟩) ?_ ?_
             rotate_left
             ·intro w'
              go_simp
              with_reducible rfl
             rotate_left
             ·simp only [Act.put, List.setIfInBounds_toArray, List.set_cons_zero, List.set_cons_succ, i64_w, i32_w]
              rfl
             refine take_ (i := 11) (N := some 59) (v := ?_) (a' := ?_) #[true, true, true, true, true, true, true, true, true, true, true, true, false, false, false, false, false, false, false, false, false, false, false, false, false, false, false, false, false] rfl rfl (take_ofW HT_.out HW_.out (by kernel_rfl)) (fun _ _ _ h => h) (Or.inl ⟨by rfl, ?_⟩) hHeld ?_ ?_
             rotate_left
             ·rintro w' ⟨s0, s1, s2, s3, s4, s5, s6, s7, s8, s9, s10, s11⟩
              go_simp
              with_reducible rfl
             rotate_left
             ·simp only [Act.put, List.setIfInBounds_toArray, List.set_cons_zero, List.set_cons_succ, i64_w, i32_w]
              rfl
             refine pure_ (i := 12) (N := some 60) (v := ?_) (a' := ?_) #[true, true, true, true, true, true, true, true, true, true, true, true, true, false, false, false, false, false, false, false, false, false, false, false, false, false, false, false, false] rfl rfl (any_of HT_.out (by kernel_rfl)) (fun _ _ _ h => h) (Or.inl ⟨by rfl, ?_⟩) ?_ ?_
             rotate_left
             ·intro w'
              go_simp
              with_reducible rfl
             rotate_left
             ·simp only [Act.put, List.setIfInBounds_toArray, List.set_cons_zero, List.set_cons_succ, i64_w, i32_w]
              rfl
             refine pure_ (i := 13) (N := some 61) (v := ?_) (a' := ?_) #[true, true, true, true, true, true, true, true, true, true, true, true, true, true, false, false, false, false, false, false, false, false, false, false, false, false, false, false, false] rfl rfl (any_of HT_.out (by kernel_rfl)) (fun _ _ _ h => h) (Or.inl ⟨by rfl, ?_⟩) ?_ ?_
             rotate_left
             ·intro w'
              go_simp
              with_reducible rfl
             rotate_left
             ·simp only [Act.put, List.setIfInBounds_toArray, List.set_cons_zero, List.set_cons_succ, i64_w, i32_w]
              rfl
             refine pure_ (i := 14) (N := some 62) (v := undef) (a' := ?_) #[true, true, true, true, true, true, true, true, true, true, true, true, true, true, true, false, false, false, false, false, false, false, false, false, false, false, false, false, false] rfl rfl (any_of HT_.out (by kernel_rfl)) (fun _ _ _ h => h) (Or.inr ⟨by rfl, rfl⟩) ?_ ?_
             rotate_left
             ·simp only [Act.put, List.setIfInBounds_toArray, List.set_cons_zero, List.set_cons_succ, i64_w, i32_w]
              rfl
             refine pure_ (i := 15) (N := some 63) (v := undef) (a' := ?_) #[true, true, true, true, true, true, true, true, true, true, true, true, true, true, true, true, false, false, false, false, false, false, false, false, false, false, false, false, false] rfl rfl (any_of HT_.out (by kernel_rfl)) (fun _ _ _ h => h) (Or.inr ⟨by rfl, rfl⟩) ?_ ?_
             rotate_left
             ·simp only [Act.put, List.setIfInBounds_toArray, List.set_cons_zero, List.set_cons_succ, i64_w, i32_w]
              rfl
             refine pure_ (i := 16) (N := some 64) (v := undef) (a' := ?_) #[true, true, true, true, true, true, true, true, true, true, true, true, true, true, true, true, true, false, false, false, false, false, false, false, false, false, false, false, false] rfl rfl (any_of HT_.out (by kernel_rfl)) (fun _ _ _ h => h) (Or.inr ⟨by rfl, rfl⟩) ?_ ?_
             rotate_left
             ·simp only [Act.put, List.setIfInBounds_toArray, List.set_cons_zero, List.set_cons_succ, i64_w, i32_w]
              rfl
             refine pure_ (i := 17) (N := some 65) (v := undef) (a' := ?_) #[true, true, true, true, true, true, true, true, true, true, true, true, true, true, true, true, true, true, false, false, false, false, false, false, false, false, false, false, false] rfl rfl (any_of HT_.out (by kernel_rfl)) (fun _ _ _ h => h) (Or.inr ⟨by rfl, rfl⟩) ?_ ?_
             rotate_left
             ·simp only [Act.put, List.setIfInBounds_toArray, List.set_cons_zero, List.set_cons_succ, i64_w, i32_w]
              rfl
             refine pure_ (i := 18) (N := some 66) (v := undef) (a' := ?_) #[true, true, true, true, true, true, true, true, true, true, true, true, true, true, true, true, true, true, true, false, false, false, false, false, false, false, false, false, false] rfl rfl (any_of HT_.out (by kernel_rfl)) (fun _ _ _ h => h) (Or.inr ⟨by rfl, rfl⟩) ?_ ?_
             rotate_left
             ·simp only [Act.put, List.setIfInBounds_toArray, List.set_cons_zero, List.set_cons_succ, i64_w, i32_w]
              rfl
             refine pure_ (i := 19) (N := some 67) (v := undef) (a' := ?_) #[true, true, true, true, true, true, true, true, true, true, true, true, true, true, true, true, true, true, true, true, false, false, false, false, false, false, false, false, false] rfl rfl (any_of HT_.out (by kernel_rfl)) (fun _ _ _ h => h) (Or.inr ⟨by rfl, rfl⟩) ?_ ?_
             rotate_left
             ·simp only [Act.put, List.setIfInBounds_toArray, List.set_cons_zero, List.set_cons_succ, i64_w, i32_w]
              rfl
             refine pure_ (i := 20) (N := some 68) (v := undef) (a' := ?_) #[true, true, true, true, true, true, true, true, true, true, true, true, true, true, true, true, true, true, true, true, true, false, false, false, false, false, false, false, false] rfl rfl (any_of HT_.out (by kernel_rfl)) (fun _ _ _ h => h) (Or.inr ⟨by rfl, rfl⟩) ?_ ?_
             rotate_left
             ·simp only [Act.put, List.setIfInBounds_toArray, List.set_cons_zero, List.set_cons_succ, i64_w, i32_w]
              rfl
             refine pure_ (i := 21) (N := some 69) (v := undef) (a' := ?_) #[true, true, true, true, true, true, true, true, true, true, true, true, true, true, true, true, true, true, true, true, true, true, false, false, false, false, false, false, false] rfl rfl (any_of HT_.out (by kernel_rfl)) (fun _ _ _ h => h) (Or.inr ⟨by rfl, rfl⟩) ?_ ?_
             rotate_left
             ·simp only [Act.put, List.setIfInBounds_toArray, List.set_cons_zero, List.set_cons_succ, i64_w, i32_w]
              rfl
             refine pure_ (i := 22) (N := some 70) (v := undef) (a' := ?_) #[true, true, true, true, true, true, true, true, true, true, true, true, true, true, true, true, true, true, true, true, true, true, true, false, false, false, false, false, false] rfl rfl (any_of HT_.out (by kernel_rfl)) (fun _ _ _ h => h) (Or.inr ⟨by rfl, rfl⟩) ?_ ?_
             rotate_left
             ·simp only [Act.put, List.setIfInBounds_toArray, List.set_cons_zero, List.set_cons_succ, i64_w, i32_w]
              rfl
             refine pure_ (i := 23) (N := some 71) (v := undef) (a' := ?_) #[true, true, true, true, true, true, true, true, true, true, true, true, true, true, true, true, true, true, true, true, true, true, true, true, false, false, false, false, false] rfl rfl (any_of HT_.out (by kernel_rfl)) (fun _ _ _ h => h) (Or.inr ⟨by rfl, rfl⟩) ?_ ?_
             rotate_left
             ·simp only [Act.put, List.setIfInBounds_toArray, List.set_cons_zero, List.set_cons_succ, i64_w, i32_w]
              rfl
             refine pure_ (i := 24) (N := some 72) (v := undef) (a' := ?_) #[true, true, true, true, true, true, true, true, true, true, true, true, true, true, true, true, true, true, true, true, true, true, true, true, true, false, false, false, false] rfl rfl (any_of HT_.out (by kernel_rfl)) (fun _ _ _ h => h) (Or.inr ⟨by rfl, rfl⟩) ?_ ?_
             rotate_left
             ·simp only [Act.put, List.setIfInBounds_toArray, List.set_cons_zero, List.set_cons_succ, i64_w, i32_w]
              rfl
             refine pure_ (i := 25) (N := some 73) (v := undef) (a' := ?_) #[true, true, true, true, true, true, true, true, true, true, true, true, true, true, true, true, true, true, true, true, true, true, true, true, true, true, false, false, false] rfl rfl (any_of HT_.out (by kernel_rfl)) (fun _ _ _ h => h) (Or.inr ⟨by rfl, rfl⟩) ?_ ?_
             rotate_left
             ·simp only [Act.put, List.setIfInBounds_toArray, List.set_cons_zero, List.set_cons_succ, i64_w, i32_w]
              rfl
             refine pure_ (i := 26) (N := some 74) (v := undef) (a' := ?_) #[true, true, true, true, true, true, true, true, true, true, true, true, true, true, true, true, true, true, true, true, true, true, true, true, true, true, true, false, false] rfl rfl (any_of HT_.out (by kernel_rfl)) (fun _ _ _ h => h) (Or.inr ⟨by rfl, rfl⟩) ?_ ?_
             rotate_left
             ·simp only [Act.put, List.setIfInBounds_toArray, List.set_cons_zero, List.set_cons_succ, i64_w, i32_w]
              rfl
             refine pure_ (i := 27) (N := some 75) (v := undef) (a' := ?_) #[true, true, true, true, true, true, true, true, true, true, true, true, true, true, true, true, true, true, true, true, true, true, true, true, true, true, true, true, false] rfl rfl (any_of HT_.out (by kernel_rfl)) (fun _ _ _ h => h) (Or.inr ⟨by rfl, rfl⟩) ?_ ?_
             rotate_left
             ·simp only [Act.put, List.setIfInBounds_toArray, List.set_cons_zero, List.set_cons_succ, i64_w, i32_w]
              rfl
             refine pure_ (i := 28) (N := some 76) (v := ?_) (a' := ?_) #[true, true, true, true, true, true, true, true, true, true, true, true, true, true, true, true, true, true, true, true, true, true, true, true, true, true, true, true, true] rfl rfl (any_of HT_.out (by kernel_rfl)) (fun _ _ _ h => h) (Or.inl ⟨by rfl, ?_⟩) ?_ ?_
             rotate_left
             ·intro w'
              go_simp
              with_reducible rfl
             rotate_left
             ·simp only [Act.put, List.setIfInBounds_toArray, List.set_cons_zero, List.set_cons_succ, i64_w, i32_w]
              rfl
             refine done_ (done_of HT_.out (by kernel_rfl)) ?_
             try go_wp2
             go_ret
             exact ⟨by first | rfl | (simp [errW_none, errW_some] <;> rfl) | (simp [*, errW_none, errW_some] <;> rfl), bel_⟩
           ·rw [if_neg c28] at H
            exact absurd H (by simp)
          ·rw [if_neg c27] at H
           exact absurd H (by simp)
         ·rw [if_neg c26] at H
          have c26b0 : decide (x6_3 < (l1_1.length : Int)) = false := decide_eq_false c26
          clear c26
          obtain rfl := Option.some.inj H
          have hnb43 := NB1057_1056.out
          have hnc43 := NB1056_1057.out
          have hcz44_0 : wr.cell? ⟨gb1057, 0, none⟩ = some (.slice A1_0 l1_0.length c1_0) := (blk_cell BK1057.out 0).trans rfl
          have hcz44_1 : wr.cell? ⟨gb1057, 1, none⟩ = some (.slice A1_1 l1_1.length c1_1) := (blk_cell BK1057.out 1).trans rfl
          have hfz44_0 := blk_frozen BK1057.out 0
          have hfz44_1 := blk_frozen BK1057.out 1
          go_wp2
          go_ret
          exact ⟨by first | rfl | (simp [errW_none, errW_some] <;> rfl) | (simp [*, errW_none, errW_some] <;> rfl), bel_⟩

end Go.Proofs.Ytecplbgdalchdaa.Q
-- written by a program of this session (wip/tools/myprint.py) out of the translation
namespace Go.Proofs.Ytecplbgdalchdaa.Q
open Go.RowKit Go.Proofs.YtecplbgdalchdaaW.PrintWords Go.Proofs.YtecplbgdalchdaaW.PrintLast Go.Proofs.YtecplbgdalchdaaW.PrintMore
attribute [local go_sem] max2_int min2_int max_two min_two max_three min_three max_four min_four   -- for this text's walks alone
set_option linter.unusedVariables false
set_option linter.unusedSimpArgs false

/-! ### sequentref04_Same: function 78 -/
def sequentref04_Same.f (k : Nat) (l0_0 : List (S106)) (l0_1 : List (S108)) (l1_0 : List (S106)) (l1_1 : List (S108)) : Option (Bool) := (sequentref04_Extends.f k l0_0 l0_1 l1_0 l1_1).bind fun t1067 => (if t1067 = true then ((sequentref04_Extends.f k l1_0 l1_1 l0_0 l0_1).bind fun t1068 => (some t1068)) else (some false))
set_option maxHeartbeats 8000000 in
set_option maxRecDepth 100000 in
theorem sequentref04_Same.calls (k : Nat) (A0_0 : Option Addr) (c0_0 : Nat) (l0_0 : List (S106)) (A0_1 : Option Addr) (c0_1 : Nat) (l0_1 : List (S108)) (A1_0 : Option Addr) (c1_0 : Nat) (l1_0 : List (S106)) (A1_1 : Option Addr) (c1_1 : Nat) (l1_1 : List (S108)) (r : Bool) (w : World) (hr0_0 : Kd.C k106 w A0_0 l0_0.length l0_0) (hc0_0 : l0_0.length ≤ c0_0) (hr0_1 : Kd.C k108 w A0_1 l0_1.length l0_1) (hc0_1 : l0_1.length ≤ c0_1) (hr1_0 : Kd.C k106 w A1_0 l1_0.length l1_0) (hc1_0 : l1_0.length ≤ c1_0) (hr1_1 : Kd.C k108 w A1_1 l1_1.length l1_1) (hc1_1 : l1_1.length ≤ c1_1) (h : sequentref04_Same.f k l0_0 l0_1 l1_0 l1_1 = some r) :
 Calls Try.prog 78 #[.agg #[.slice A0_0 l0_0.length c0_0, .slice A0_1 l0_1.length c0_1], .agg #[.slice A1_0 l1_0.length c1_0, .slice A1_1 l1_1.length c1_1]] w fun e w' => e = .returned (.bool r) ∧ Below w.heap.size w w' := by
 have hu94 := Try.underlying94
 have HR0_0 := Aside0.mk hr0_0
 have HC0_0 := Aside0.mk hc0_0
 clear hr0_0 hc0_0
 have HR0_1 := Aside0.mk hr0_1
 have HC0_1 := Aside0.mk hc0_1
 clear hr0_1 hc0_1
 have HR1_0 := Aside0.mk hr1_0
 have HC1_0 := Aside0.mk hc1_0
 clear hr1_0 hc1_0
 have HR1_1 := Aside0.mk hr1_1
 have HC1_1 := Aside0.mk hc1_1
 clear hr1_1 hc1_1
 have HB := Aside0.mk (Below.refl w.heap.size w)
 have H : ((sequentref04_Extends.f k l0_0 l0_1 l1_0 l1_1).bind fun t1067 => (if t1067 = true then ((sequentref04_Extends.f k l1_0 l1_1 l0_0 l0_1).bind fun t1068 => (some t1068)) else (some false))) = some r := h
 clear h
 replace H := Option.bind_eq_some_iff.mp H
 obtain ⟨t1067, A30, H⟩ := H
 replace H : (if t1067 = true then ((sequentref04_Extends.f k l1_0 l1_1 l0_0 l0_1).bind fun t1068 => (some t1068)) else (some false)) = some r := H
 have A3 := Aside0.mk A30
 clear A30
 by_cases c4 : t1067 = true
 ·subst c4
  have H1 : ((sequentref04_Extends.f k l1_0 l1_1 l0_0 l0_1).bind fun t1068 => (some t1068)) = some r := by rw [if_pos rfl] at H; exact H
  clear H
  have H := H1
  clear H1
  replace H := Option.bind_eq_some_iff.mp H
  obtain ⟨t1068, A50, H⟩ := H
  replace H : (some t1068) = some r := H
  have A5 := Aside0.mk A50
  clear A50
  obtain rfl := Option.some.inj H
  go_enter Try.func78, Try.ntmps78
  go_wp2_with (first | ((with_reducible refine gate_dst (N := 2) rfl ?_); refine box_event ?hg (N := 2) ?hd (cs := #[.slice A0_0 l0_0.length c0_0, .slice A0_1 l0_1.length c0_1]) (t := 94) ?hr ?_; (case hd => rfl); (case hg => rfl); (case hr => first | (go_simp; done) | (go_simp; rfl)); intro gb1065 hg w6 hbox hb; have n0_ := Aside0.mk (below_step bel_ hb); have n1_ := Aside0.mk (hbox); have n2_ := Aside0.mk ((by rw [hg]; exact (below_size bel_) : w.heap.size ≤ gb1065)); have n3_ := Aside0.mk ((by rw [hg]; exact (below_size bel_) : w.heap.size ≤ gb1065)); clear HB; have HB := n0_; have BK1065 := n1_; have GW1065 := n2_; have GE1065 := n3_; clear n0_ n1_ n2_ n3_; clear hb hbox hg) | ((with_reducible refine gate_dst (N := 3) rfl ?_); refine box_event ?hg (N := 3) ?hd (cs := #[.slice A1_0 l1_0.length c1_0, .slice A1_1 l1_1.length c1_1]) (t := 94) ?hr ?_; (case hd => rfl); (case hg => rfl); (case hr => first | (go_simp; done) | (go_simp; rfl)); intro gb1066 hg w7 hbox hb; have n0_ := Aside0.mk (blk_below (g := gb1065) (o := .cells #[.slice A0_0 l0_0.length c0_0, .slice A0_1 l0_1.length c0_1] 94 (0, 0)) (bk_ BK1065) hb); have n1_ := Aside0.mk (below_step bel_ hb); have n2_ := Aside0.mk (hbox); have n3_ := Aside0.mk ((by rw [hg]; exact (below_size bel_) : w.heap.size ≤ gb1066)); have n4_ := Aside0.mk ((by rw [hg]; exact (below_size bel_) : w.heap.size ≤ gb1066)); have n5_ := Aside0.mk ((by rw [hg]; exact Nat.ne_of_lt (blk_lt (g := gb1065) (o := .cells #[.slice A0_0 l0_0.length c0_0, .slice A0_1 l0_1.length c0_1] 94 (0, 0)) (bk_ BK1065)) : gb1065 ≠ gb1066)); have n6_ := Aside0.mk ((by rw [hg]; exact Nat.ne_of_gt (blk_lt (g := gb1065) (o := .cells #[.slice A0_0 l0_0.length c0_0, .slice A0_1 l0_1.length c0_1] 94 (0, 0)) (bk_ BK1065)) : gb1066 ≠ gb1065)); clear BK1065; clear HB; have BK1065 := n0_; have HB := n1_; have BK1066 := n2_; have GW1066 := n3_; have GE1066 := n4_; have NB1065_1066 := n5_; have NB1066_1065 := n6_; clear n0_ n1_ n2_ n3_ n4_ n5_ n6_; clear hb hbox hg; have hnb8 := NB1065_1066.out; have hnc8 := NB1066_1065.out; have hcz9_0 : w7.cell? ⟨gb1065, 0, none⟩ = some (.slice A0_0 l0_0.length c0_0) := (blk_cell BK1065.out 0).trans rfl; have hcz9_1 : w7.cell? ⟨gb1065, 1, none⟩ = some (.slice A0_1 l0_1.length c0_1) := (blk_cell BK1065.out 1).trans rfl; have hfz9_0 := blk_frozen BK1065.out 0; have hfz9_1 := blk_frozen BK1065.out 1; have hcz10_0 : w7.cell? ⟨gb1066, 0, none⟩ = some (.slice A1_0 l1_0.length c1_0) := (blk_cell BK1066.out 0).trans rfl; have hcz10_1 : w7.cell? ⟨gb1066, 1, none⟩ = some (.slice A1_1 l1_1.length c1_1) := (blk_cell BK1066.out 1).trans rfl; have hfz10_0 := blk_frozen BK1066.out 0; have hfz10_1 := blk_frozen BK1066.out 1) | ((with_reducible refine gate_callee (f := 80) rfl ?_); refine goesL_ (some 7) rfl rfl Try.func80 (by kernel_rfl) rfl #[.agg #[.slice A0_0 l0_0.length c0_0, .slice A0_1 l0_1.length c0_1], .agg #[.slice A1_0 l1_0.length c1_0, .slice A1_1 l1_1.length c1_1]] rfl (by (try simp only [List.map_toArray, List.map_cons, List.map_nil]); first | done | rfl | (simp only [List.length_drop, List.length_take]; rfl)) ?_; (with_reducible refine (sequentref04_Extends.calls k _ _ l0_0 _ _ l0_1 _ _ l1_0 _ _ l1_1 true _ ?side1 ?side2 ?side3 ?side4 ?side5 ?side6 ?side7 ?side8 A3.out).mono ?_); (case side1 => repeat (first | exact (Kd.C_below HR0_0.out HB.out) | (with_reducible refine Kd.C_alloc ?_ _) | (with_reducible refine Kd.C_drewN ?_ _) | (with_reducible refine Kd.C_drew ?_))); (case side2 => exact HC0_0.out); (case side3 => repeat (first | exact (Kd.C_below HR0_1.out HB.out) | (with_reducible refine Kd.C_alloc ?_ _) | (with_reducible refine Kd.C_drewN ?_ _) | (with_reducible refine Kd.C_drew ?_))); (case side4 => exact HC0_1.out); (case side5 => repeat (first | exact (Kd.C_below HR1_0.out HB.out) | (with_reducible refine Kd.C_alloc ?_ _) | (with_reducible refine Kd.C_drewN ?_ _) | (with_reducible refine Kd.C_drew ?_))); (case side6 => exact HC1_0.out); (case side7 => repeat (first | exact (Kd.C_below HR1_1.out HB.out) | (with_reducible refine Kd.C_alloc ?_ _) | (with_reducible refine Kd.C_drewN ?_ _) | (with_reducible refine Kd.C_drew ?_))); (case side8 => exact HC1_1.out); rintro e w11 ⟨rfl, hb⟩; refine ⟨_, rfl, ?_⟩; have n0_ := Aside0.mk (blk_below (g := gb1065) (o := .cells #[.slice A0_0 l0_0.length c0_0, .slice A0_1 l0_1.length c0_1] 94 (0, 0)) (bk_ BK1065) hb); have n1_ := Aside0.mk (blk_below (g := gb1066) (o := .cells #[.slice A1_0 l1_0.length c1_0, .slice A1_1 l1_1.length c1_1] 94 (0, 0)) (bk_ BK1066) hb); have n2_ := Aside0.mk (below_step bel_ hb); clear BK1065; clear BK1066; clear HB; have BK1065 := n0_; have BK1066 := n1_; have HB := n2_; clear n0_ n1_ n2_; (try clear hb); (try clear hb2); (try clear hk); (try clear hi); have hcz12_0 : w11.cell? ⟨gb1066, 0, none⟩ = some (.slice A1_0 l1_0.length c1_0) := (blk_cell BK1066.out 0).trans rfl; have hcz12_1 : w11.cell? ⟨gb1066, 1, none⟩ = some (.slice A1_1 l1_1.length c1_1) := (blk_cell BK1066.out 1).trans rfl; have hfz12_0 := blk_frozen BK1066.out 0; have hfz12_1 := blk_frozen BK1066.out 1; have hcz13_0 : w11.cell? ⟨gb1065, 0, none⟩ = some (.slice A0_0 l0_0.length c0_0) := (blk_cell BK1065.out 0).trans rfl; have hcz13_1 : w11.cell? ⟨gb1065, 1, none⟩ = some (.slice A0_1 l0_1.length c0_1) := (blk_cell BK1065.out 1).trans rfl; have hfz13_0 := blk_frozen BK1065.out 0; have hfz13_1 := blk_frozen BK1065.out 1) | (go_at_call 80; (with_reducible refine (sequentref04_Extends.calls k _ _ l1_0 _ _ l1_1 _ _ l0_0 _ _ l0_1 t1068 _ ?side1 ?side2 ?side3 ?side4 ?side5 ?side6 ?side7 ?side8 A5.out).mono ?_); (case side1 => repeat (first | exact (Kd.C_below HR1_0.out HB.out) | (with_reducible refine Kd.C_alloc ?_ _) | (with_reducible refine Kd.C_drewN ?_ _) | (with_reducible refine Kd.C_drew ?_))); (case side2 => exact HC1_0.out); (case side3 => repeat (first | exact (Kd.C_below HR1_1.out HB.out) | (with_reducible refine Kd.C_alloc ?_ _) | (with_reducible refine Kd.C_drewN ?_ _) | (with_reducible refine Kd.C_drew ?_))); (case side4 => exact HC1_1.out); (case side5 => repeat (first | exact (Kd.C_below HR0_0.out HB.out) | (with_reducible refine Kd.C_alloc ?_ _) | (with_reducible refine Kd.C_drewN ?_ _) | (with_reducible refine Kd.C_drew ?_))); (case side6 => exact HC0_0.out); (case side7 => repeat (first | exact (Kd.C_below HR0_1.out HB.out) | (with_reducible refine Kd.C_alloc ?_ _) | (with_reducible refine Kd.C_drewN ?_ _) | (with_reducible refine Kd.C_drew ?_))); (case side8 => exact HC0_1.out); rintro e w14 ⟨rfl, hb⟩; have n0_ := Aside0.mk (blk_below (g := gb1065) (o := .cells #[.slice A0_0 l0_0.length c0_0, .slice A0_1 l0_1.length c0_1] 94 (0, 0)) (bk_ BK1065) hb); have n1_ := Aside0.mk (blk_below (g := gb1066) (o := .cells #[.slice A1_0 l1_0.length c1_0, .slice A1_1 l1_1.length c1_1] 94 (0, 0)) (bk_ BK1066) hb); have n2_ := Aside0.mk (below_step bel_ hb); clear BK1065; clear BK1066; clear HB; have BK1065 := n0_; have BK1066 := n1_; have HB := n2_; clear n0_ n1_ n2_; (try clear hb); (try clear hb2); (try clear hk); (try clear hi)))
  go_ret
  exact ⟨by first | rfl | (simp [errW_none, errW_some] <;> rfl) | (simp [*, errW_none, errW_some] <;> rfl), bel_⟩
 ·replace c4 := Bool.eq_false_iff.mpr c4
  subst c4
  have H1 : (some false) = some r := by rw [if_neg (show ¬ (false = true) by decide)] at H; exact H
  clear H
  have H := H1
  clear H1
  obtain rfl := Option.some.inj H
  go_enter Try.func78, Try.ntmps78
  go_wp2_with (first | ((with_reducible refine gate_dst (N := 2) rfl ?_); refine box_event ?hg (N := 2) ?hd (cs := #[.slice A0_0 l0_0.length c0_0, .slice A0_1 l0_1.length c0_1]) (t := 94) ?hr ?_; (case hd => rfl); (case hg => rfl); (case hr => first | (go_simp; done) | (go_simp; rfl)); intro gb1065 hg w15 hbox hb; have n0_ := Aside0.mk (below_step bel_ hb); have n1_ := Aside0.mk (hbox); have n2_ := Aside0.mk ((by rw [hg]; exact (below_size bel_) : w.heap.size ≤ gb1065)); have n3_ := Aside0.mk ((by rw [hg]; exact (below_size bel_) : w.heap.size ≤ gb1065)); clear HB; have HB := n0_; have BK1065 := n1_; have GW1065 := n2_; have GE1065 := n3_; clear n0_ n1_ n2_ n3_; clear hb hbox hg) | ((with_reducible refine gate_dst (N := 3) rfl ?_); refine box_event ?hg (N := 3) ?hd (cs := #[.slice A1_0 l1_0.length c1_0, .slice A1_1 l1_1.length c1_1]) (t := 94) ?hr ?_; (case hd => rfl); (case hg => rfl); (case hr => first | (go_simp; done) | (go_simp; rfl)); intro gb1066 hg w16 hbox hb; have n0_ := Aside0.mk (blk_below (g := gb1065) (o := .cells #[.slice A0_0 l0_0.length c0_0, .slice A0_1 l0_1.length c0_1] 94 (0, 0)) (bk_ BK1065) hb); have n1_ := Aside0.mk (below_step bel_ hb); have n2_ := Aside0.mk (hbox); have n3_ := Aside0.mk ((by rw [hg]; exact (below_size bel_) : w.heap.size ≤ gb1066)); have n4_ := Aside0.mk ((by rw [hg]; exact (below_size bel_) : w.heap.size ≤ gb1066)); have n5_ := Aside0.mk ((by rw [hg]; exact Nat.ne_of_lt (blk_lt (g := gb1065) (o := .cells #[.slice A0_0 l0_0.length c0_0, .slice A0_1 l0_1.length c0_1] 94 (0, 0)) (bk_ BK1065)) : gb1065 ≠ gb1066)); have n6_ := Aside0.mk ((by rw [hg]; exact Nat.ne_of_gt (blk_lt (g := gb1065) (o := .cells #[.slice A0_0 l0_0.length c0_0, .slice A0_1 l0_1.length c0_1] 94 (0, 0)) (bk_ BK1065)) : gb1066 ≠ gb1065)); clear BK1065; clear HB; have BK1065 := n0_; have HB := n1_; have BK1066 := n2_; have GW1066 := n3_; have GE1066 := n4_; have NB1065_1066 := n5_; have NB1066_1065 := n6_; clear n0_ n1_ n2_ n3_ n4_ n5_ n6_; clear hb hbox hg; have hnb17 := NB1065_1066.out; have hnc17 := NB1066_1065.out; have hcz18_0 : w16.cell? ⟨gb1065, 0, none⟩ = some (.slice A0_0 l0_0.length c0_0) := (blk_cell BK1065.out 0).trans rfl; have hcz18_1 : w16.cell? ⟨gb1065, 1, none⟩ = some (.slice A0_1 l0_1.length c0_1) := (blk_cell BK1065.out 1).trans rfl; have hfz18_0 := blk_frozen BK1065.out 0; have hfz18_1 := blk_frozen BK1065.out 1; have hcz19_0 : w16.cell? ⟨gb1066, 0, none⟩ = some (.slice A1_0 l1_0.length c1_0) := (blk_cell BK1066.out 0).trans rfl; have hcz19_1 : w16.cell? ⟨gb1066, 1, none⟩ = some (.slice A1_1 l1_1.length c1_1) := (blk_cell BK1066.out 1).trans rfl; have hfz19_0 := blk_frozen BK1066.out 0; have hfz19_1 := blk_frozen BK1066.out 1) | ((with_reducible refine gate_callee (f := 80) rfl ?_); refine goesL_ (some 7) rfl rfl Try.func80 (by kernel_rfl) rfl #[.agg #[.slice A0_0 l0_0.length c0_0, .slice A0_1 l0_1.length c0_1], .agg #[.slice A1_0 l1_0.length c1_0, .slice A1_1 l1_1.length c1_1]] rfl (by (try simp only [List.map_toArray, List.map_cons, List.map_nil]); first | done | rfl | (simp only [List.length_drop, List.length_take]; rfl)) ?_; (with_reducible refine (sequentref04_Extends.calls k _ _ l0_0 _ _ l0_1 _ _ l1_0 _ _ l1_1 false _ ?side1 ?side2 ?side3 ?side4 ?side5 ?side6 ?side7 ?side8 A3.out).mono ?_); (case side1 => repeat (first | exact (Kd.C_below HR0_0.out HB.out) | (with_reducible refine Kd.C_alloc ?_ _) | (with_reducible refine Kd.C_drewN ?_ _) | (with_reducible refine Kd.C_drew ?_))); (case side2 => exact HC0_0.out); (case side3 => repeat (first | exact (Kd.C_below HR0_1.out HB.out) | (with_reducible refine Kd.C_alloc ?_ _) | (with_reducible refine Kd.C_drewN ?_ _) | (with_reducible refine Kd.C_drew ?_))); (case side4 => exact HC0_1.out); (case side5 => repeat (first | exact (Kd.C_below HR1_0.out HB.out) | (with_reducible refine Kd.C_alloc ?_ _) | (with_reducible refine Kd.C_drewN ?_ _) | (with_reducible refine Kd.C_drew ?_))); (case side6 => exact HC1_0.out); (case side7 => repeat (first | exact (Kd.C_below HR1_1.out HB.out) | (with_reducible refine Kd.C_alloc ?_ _) | (with_reducible refine Kd.C_drewN ?_ _) | (with_reducible refine Kd.C_drew ?_))); (case side8 => exact HC1_1.out); rintro e w20 ⟨rfl, hb⟩; refine ⟨_, rfl, ?_⟩; have n0_ := Aside0.mk (blk_below (g := gb1065) (o := .cells #[.slice A0_0 l0_0.length c0_0, .slice A0_1 l0_1.length c0_1] 94 (0, 0)) (bk_ BK1065) hb); have n1_ := Aside0.mk (blk_below (g := gb1066) (o := .cells #[.slice A1_0 l1_0.length c1_0, .slice A1_1 l1_1.length c1_1] 94 (0, 0)) (bk_ BK1066) hb); have n2_ := Aside0.mk (below_step bel_ hb); clear BK1065; clear BK1066; clear HB; have BK1065 := n0_; have BK1066 := n1_; have HB := n2_; clear n0_ n1_ n2_; (try clear hb); (try clear hb2); (try clear hk); (try clear hi)))
  go_ret
  exact ⟨by first | rfl | (simp [errW_none, errW_some] <;> rfl) | (simp [*, errW_none, errW_some] <;> rfl), bel_⟩

end Go.Proofs.Ytecplbgdalchdaa.Q
