/- Proved here: parts of the proof of a given statement (HRowPrinterTypes): contracts of the functions that it reaches, what they answer, and in the last text the statement itself. Conditions: those that each theorem names. -/
import Derived.Test.YtgnklkmifcmlhaaZPTX3
import Derived.Test.YtgnklkmifcmlhaaZPTX8
import Derived.Test.YtgnklkmifcmlhaaZPTX7
-- written by a program of this session (wip/tools/myprint.py) out of the translation
namespace Go.Proofs.Ytgnklkmifcmlhaa.Q
open Go.RowKit Go.Proofs.YtgnklkmifcmlhaaW.PrintWords Go.Proofs.YtgnklkmifcmlhaaW.PrintLast Go.Proofs.YtgnklkmifcmlhaaW.PrintMore
attribute [local go_sem] max2_int min2_int max_two min_two max_three min_three max_four min_four   -- for this text's walks alone
set_option linter.unusedVariables false
set_option linter.unusedSimpArgs false

/-! ### sequentref14_Valid: function 83 -/
mutual
def sequentref14_Valid.j0 : Nat → Bool → List (S119) → List (S122) → List ByteArray → List (S111) → Option (Bool)
  | 0, _, _, _, _, _ => none
  | k + 1, x32, x756000, x756001, x756002, x756003 => if x32 = true then (some false) else ((sequentref14_Operators.f k x756000 x756001 x756002 x756003).bind fun t756 => ((sequentref14_distinct.f k t756).bind fun t759 => (if t759 = true then ((sequentref14_Overloads.f k x756000 x756001 x756002 x756003).bind fun t760 => ((sequentref14_distinct.f k t760).bind fun t763 => (sequentref14_Valid.j1 k (!t763) x756000 x756001 x756002 x756003))) else (sequentref14_Valid.j1 k true x756000 x756001 x756002 x756003))))
def sequentref14_Valid.j1 : Nat → Bool → List (S119) → List (S122) → List ByteArray → List (S111) → Option (Bool)
  | 0, _, _, _, _, _ => none
  | k + 1, x42, x756000, x756001, x756002, x756003 => if x42 = true then (some false) else (sequentref14_Valid.l0 k 0 x756000 x756001 x756002 x756003)
def sequentref14_Valid.l0 : Nat → Int → List (S119) → List (S122) → List ByteArray → List (S111) → Option (Bool)
  | 0, _, _, _, _, _ => none
  | k + 1, x3, x756000, x756001, x756002, x756003 => if x3 < (x756000.length : Int) then (if 0 ≤ x3 then (if ((rd_T119 x756000 x3).f1) < 1 then (sequentref14_Valid.j3 k x3 true x756000 x756001 x756002 x756003 ((rd_T119 x756000 x3).f0) ((rd_T119 x756000 x3).f1) ((rd_T119 x756000 x3).f2)) else (sequentref14_Valid.j3 k x3 (decide (((rd_T119 x756000 x3).f1) > 99)) x756000 x756001 x756002 x756003 ((rd_T119 x756000 x3).f0) ((rd_T119 x756000 x3).f1) ((rd_T119 x756000 x3).f2))) else (none)) else (sequentref14_Valid.l2 k 0 x756000 x756001 x756002 x756003)
def sequentref14_Valid.j3 : Nat → Int → Bool → List (S119) → List (S122) → List ByteArray → List (S111) → ByteArray → Int → Bool → Option (Bool)
  | 0, _, _, _, _, _, _, _, _, _ => none
  | k + 1, x3, x62, x756000, x756001, x756002, x756003, x766000, x766001, x766002 => if x62 = true then (some false) else (sequentref14_Valid.l1 k x3 0 x756000 x756001 x756002 x756003 x766000 x766001 x766002)
def sequentref14_Valid.l1 : Nat → Int → Int → List (S119) → List (S122) → List ByteArray → List (S111) → ByteArray → Int → Bool → Option (Bool)
  | 0, _, _, _, _, _, _, _, _, _ => none
  | k + 1, x3, x5, x756000, x756001, x756002, x756003, x766000, x766001, x766002 => if x5 < x3 then (if 0 ≤ x5 then (if x5 < (x756000.length : Int) then (if ((rd_T119 x756000 x5).f1) = x766001 then (if (((rd_T119 x756000 x5).f2) != x766002) = true then (some false) else (sequentref14_Valid.l1 k x3 (wrap64 (x5 + 1)) x756000 x756001 x756002 x756003 x766000 x766001 x766002)) else (sequentref14_Valid.l1 k x3 (wrap64 (x5 + 1)) x756000 x756001 x756002 x756003 x766000 x766001 x766002)) else (none)) else (none)) else (sequentref14_Valid.l0 k (wrap64 (x3 + 1)) x756000 x756001 x756002 x756003)
def sequentref14_Valid.l2 : Nat → Int → List (S119) → List (S122) → List ByteArray → List (S111) → Option (Bool)
  | 0, _, _, _, _, _ => none
  | k + 1, x6, x756000, x756001, x756002, x756003 => if x6 < (x756001.length : Int) then (if 0 ≤ x6 then (if ((rd_T122 x756001 x6).f1) < 1 then (sequentref14_Valid.j6 k x6 true x756000 x756001 x756002 x756003) else (sequentref14_Valid.j6 k x6 (decide (((rd_T122 x756001 x6).f1) > 99)) x756000 x756001 x756002 x756003)) else (none)) else (sequentref14_Valid.l4 k 0 x756000 x756001 x756002 x756003)
def sequentref14_Valid.j6 : Nat → Int → Bool → List (S119) → List (S122) → List ByteArray → List (S111) → Option (Bool)
  | 0, _, _, _, _, _, _ => none
  | k + 1, x6, x110, x756000, x756001, x756002, x756003 => if x110 = true then (some false) else (sequentref14_Valid.l3 k x6 0 x756000 x756001 x756002 x756003)
def sequentref14_Valid.l3 : Nat → Int → Int → List (S119) → List (S122) → List ByteArray → List (S111) → Option (Bool)
  | 0, _, _, _, _, _, _ => none
  | k + 1, x6, x7, x756000, x756001, x756002, x756003 => if x7 < (x756000.length : Int) then (if 0 ≤ x7 then (if 0 ≤ x6 then (if x6 < (x756001.length : Int) then (if ((rd_T119 x756000 x7).f1) = ((rd_T122 x756001 x6).f1) then (some false) else (sequentref14_Valid.l3 k x6 (wrap64 (x7 + 1)) x756000 x756001 x756002 x756003)) else (none)) else (none)) else (none)) else (sequentref14_Valid.l2 k (wrap64 (x6 + 1)) x756000 x756001 x756002 x756003)
def sequentref14_Valid.l4 : Nat → Int → List (S119) → List (S122) → List ByteArray → List (S111) → Option (Bool)
  | 0, _, _, _, _, _ => none
  | k + 1, x8, x756000, x756001, x756002, x756003 => if x8 < (x756003.length : Int) then (if 0 ≤ x8 then (if (((rd_T111 x756003 x8).f1).length : Int) < 1 then (sequentref14_Valid.j9 k x8 ((rd_T111 x756003 x8).f1) true x756000 x756001 x756002 x756003) else (sequentref14_Valid.j9 k x8 ((rd_T111 x756003 x8).f1) (decide ((((rd_T111 x756003 x8).f1).length : Int) > 8)) x756000 x756001 x756002 x756003)) else (none)) else (some true)
def sequentref14_Valid.j9 : Nat → Int → List ByteArray → Bool → List (S119) → List (S122) → List ByteArray → List (S111) → Option (Bool)
  | 0, _, _, _, _, _, _, _ => none
  | k + 1, x8, x9, x151, x756000, x756001, x756002, x756003 => if x151 = true then (some false) else (sequentref14_Valid.l5 k x8 x9 0 x756000 x756001 x756002 x756003)
def sequentref14_Valid.l5 : Nat → Int → List ByteArray → Int → List (S119) → List (S122) → List ByteArray → List (S111) → Option (Bool)
  | 0, _, _, _, _, _, _, _ => none
  | k + 1, x8, x9, x10, x756000, x756001, x756002, x756003 => if x10 < (x9.length : Int) then (if 0 ≤ x10 then ((sequentref02_Name.f k (rdOf ByteArray.empty x9 x10)).bind fun t774 => (if t774 = true then (if (rdOf ByteArray.empty x9 x10).toList = ([124, 45] : List UInt8) then (some false) else (sequentref14_Valid.l5 k x8 x9 (wrap64 (x10 + 1)) x756000 x756001 x756002 x756003)) else (some false))) else (none)) else (sequentref14_Valid.l4 k (wrap64 (x8 + 1)) x756000 x756001 x756002 x756003)
end
def sequentref14_Valid.f (k : Nat) (l0_0 : List (S119)) (l0_1 : List (S122)) (l0_2 : List ByteArray) (l0_3 : List (S111)) : Option (Bool) := if (l0_0.length : Int) > 64 then (sequentref14_Valid.j0 k true l0_0 l0_1 l0_2 l0_3) else (if (l0_1.length : Int) > 64 then (sequentref14_Valid.j0 k true l0_0 l0_1 l0_2 l0_3) else (if (l0_2.length : Int) > 64 then (sequentref14_Valid.j0 k true l0_0 l0_1 l0_2 l0_3) else (sequentref14_Valid.j0 k (decide ((l0_3.length : Int) > 64)) l0_0 l0_1 l0_2 l0_3)))
set_option maxHeartbeats 8000000 in
set_option maxRecDepth 100000 in
theorem sequentref14_Valid.calls (k : Nat) (A0_0 : Option Addr) (c0_0 : Nat) (l0_0 : List (S119)) (A0_1 : Option Addr) (c0_1 : Nat) (l0_1 : List (S122)) (A0_2 : Option Addr) (c0_2 : Nat) (l0_2 : List ByteArray) (A0_3 : Option Addr) (c0_3 : Nat) (l0_3 : List (S111)) (r : Bool) (w : World) (hr0_0 : Kd.C k119 w A0_0 l0_0.length l0_0) (hc0_0 : l0_0.length ≤ c0_0) (hr0_1 : Kd.C k122 w A0_1 l0_1.length l0_1) (hc0_1 : l0_1.length ≤ c0_1) (hr0_2 : Kd.C Kd.string w A0_2 l0_2.length l0_2) (hc0_2 : l0_2.length ≤ c0_2) (hr0_3 : Kd.C k111 w A0_3 l0_3.length l0_3) (hc0_3 : l0_3.length ≤ c0_3) (h : sequentref14_Valid.f k l0_0 l0_1 l0_2 l0_3 = some r) :
    Calls Try.prog 83 #[.agg #[.slice A0_0 l0_0.length c0_0, .slice A0_1 l0_1.length c0_1, .slice A0_2 l0_2.length c0_2, .slice A0_3 l0_3.length c0_3]] w fun e w' => e = .returned (.bool r) ∧ Below w.heap.size w w' := by
  have hu69 := Try.underlying69
  have hu119 := Try.underlying119
  have HR0_0 := Aside0.mk hr0_0
  have HC0_0 := Aside0.mk hc0_0
  clear hr0_0 hc0_0
  have HR0_1 := Aside0.mk hr0_1
  have HC0_1 := Aside0.mk hc0_1
  clear hr0_1 hc0_1
  have HR0_2 := Aside0.mk hr0_2
  have HC0_2 := Aside0.mk hc0_2
  clear hr0_2 hc0_2
  have HR0_3 := Aside0.mk hr0_3
  have HC0_3 := Aside0.mk hc0_3
  clear hr0_3 hc0_3
  have HB := Aside0.mk (Below.refl w.heap.size w)
  have H : (if (l0_0.length : Int) > 64 then (sequentref14_Valid.j0 k true l0_0 l0_1 l0_2 l0_3) else (if (l0_1.length : Int) > 64 then (sequentref14_Valid.j0 k true l0_0 l0_1 l0_2 l0_3) else (if (l0_2.length : Int) > 64 then (sequentref14_Valid.j0 k true l0_0 l0_1 l0_2 l0_3) else (sequentref14_Valid.j0 k (decide ((l0_3.length : Int) > 64)) l0_0 l0_1 l0_2 l0_3)))) = some r := h
  clear h
  have HC2 := Aside0.mk H
  clear H
  go_enter Try.func83, Try.ntmps83
  go_upto_region 1 with (first | ((with_reducible refine gate_dst (N := 1) rfl ?_); (try (refine gate_guard (by rfl) ?_; dsimp only)); refine box_event ?hg (N := 1) ?hd (cs := #[.slice A0_0 l0_0.length c0_0, .slice A0_1 l0_1.length c0_1, .slice A0_2 l0_2.length c0_2, .slice A0_3 l0_3.length c0_3]) (t := 69) ?hr ?_; (case hd => rfl); (case hg => rfl); (case hr => first | (go_simp; done) | (go_simp; rfl)); intro gb755 hg w3 hbox hb; have n0_ := Aside0.mk (below_step bel_ hb); have n1_ := Aside0.mk (hbox); have n2_ := Aside0.mk ((by rw [hg]; exact (below_size bel_) : w.heap.size ≤ gb755)); have n3_ := Aside0.mk ((by rw [hg]; exact (below_size bel_) : w.heap.size ≤ gb755)); clear HB; have HB := n0_; have BK755 := n1_; have GW755 := n2_; have GE755 := n3_; clear n0_ n1_ n2_ n3_; clear hb hbox hg))
  repeat (go_quiet (first | ((with_reducible refine gate_dst (N := 1) rfl ?_); (try (refine gate_guard (by rfl) ?_; dsimp only)); refine box_event ?hg (N := 1) ?hd (cs := #[.slice A0_0 l0_0.length c0_0, .slice A0_1 l0_1.length c0_1, .slice A0_2 l0_2.length c0_2, .slice A0_3 l0_3.length c0_3]) (t := 69) ?hr ?_; (case hd => rfl); (case hg => rfl); (case hr => first | (go_simp; done) | (go_simp; rfl)); intro gb755 hg w3 hbox hb; have n0_ := Aside0.mk (below_step bel_ hb); have n1_ := Aside0.mk (hbox); have n2_ := Aside0.mk ((by rw [hg]; exact (below_size bel_) : w.heap.size ≤ gb755)); have n3_ := Aside0.mk ((by rw [hg]; exact (below_size bel_) : w.heap.size ≤ gb755)); clear HB; have HB := n0_; have BK755 := n1_; have GW755 := n2_; have GE755 := n3_; clear n0_ n1_ n2_ n3_; clear hb hbox hg)); go_upto_region 1 with (first | ((with_reducible refine gate_dst (N := 1) rfl ?_); (try (refine gate_guard (by rfl) ?_; dsimp only)); refine box_event ?hg (N := 1) ?hd (cs := #[.slice A0_0 l0_0.length c0_0, .slice A0_1 l0_1.length c0_1, .slice A0_2 l0_2.length c0_2, .slice A0_3 l0_3.length c0_3]) (t := 69) ?hr ?_; (case hd => rfl); (case hg => rfl); (case hr => first | (go_simp; done) | (go_simp; rfl)); intro gb755 hg w3 hbox hb; have n0_ := Aside0.mk (below_step bel_ hb); have n1_ := Aside0.mk (hbox); have n2_ := Aside0.mk ((by rw [hg]; exact (below_size bel_) : w.heap.size ≤ gb755)); have n3_ := Aside0.mk ((by rw [hg]; exact (below_size bel_) : w.heap.size ≤ gb755)); clear HB; have HB := n0_; have BK755 := n1_; have GW755 := n2_; have GE755 := n3_; clear n0_ n1_ n2_ n3_; clear hb hbox hg)))
  (try simp only [Act.put, List.setIfInBounds_toArray, List.set_cons_zero, List.set_cons_succ])
  go_cut [32] (fun v32 wc => ∃ (kq : Nat) (x32_1 : Bool), v32 = .bool x32_1 ∧ Aside0 (sequentref14_Valid.j0 kq x32_1 l0_0 l0_1 l0_2 l0_3 = some r) ∧ Aside0 (kq ≤ k) ∧ Aside0 (wc.heap[gb755]? = some (.cells #[(.slice A0_0 l0_0.length c0_0), (.slice A0_1 l0_1.length c0_1), (.slice A0_2 l0_2.length c0_2), (.slice A0_3 l0_3.length c0_3)] 69 (0, 0))) ∧ Aside0 (Below w.heap.size w wc))
  case first =>
    have H := HC2.out
    clear HC2
    by_cases c4 : (l0_0.length : Int) > 64
    · rw [if_pos c4] at H
      have c4b0 : decide (64 < (l0_0.length : Int)) = true := decide_eq_true c4
      have c4b1 : decide (64 < l0_0.length) = true := decide_eq_true (by omega)
      clear c4
      (first | rw [c4b0] | (simp only [i64_w, i32_w]; rw [c4b0]) | skip)
      have H' := Aside0.mk H
      clear H
      have hcz5_0 : w3.cell? ⟨gb755, 0, none⟩ = some (.slice A0_0 l0_0.length c0_0) := (blk_cell BK755.out 0).trans rfl
      have hcz5_1 : w3.cell? ⟨gb755, 1, none⟩ = some (.slice A0_1 l0_1.length c0_1) := (blk_cell BK755.out 1).trans rfl
      have hcz5_2 : w3.cell? ⟨gb755, 2, none⟩ = some (.slice A0_2 l0_2.length c0_2) := (blk_cell BK755.out 2).trans rfl
      have hcz5_3 : w3.cell? ⟨gb755, 3, none⟩ = some (.slice A0_3 l0_3.length c0_3) := (blk_cell BK755.out 3).trans rfl
      have hfz5_0 := blk_frozen BK755.out 0
      have hfz5_1 := blk_frozen BK755.out 1
      have hfz5_2 := blk_frozen BK755.out 2
      have hfz5_3 := blk_frozen BK755.out 3
      go_wp2
      repeat (go_quiet (fail); try go_wp2)
      go_meet
      case rel => exact ⟨_, (true), (by first | rfl | (simp; done) | (simp [*]; done)), H', ⟨by first | omega | exact Nat.le_refl _⟩, ⟨by (with_reducible repeat (first | refine blk_drewN ?_ _ | refine blk_drew ?_ | refine blk_alloc ?_ _)); exact BK755.out⟩, ⟨bel_⟩⟩
    · rw [if_neg c4] at H
      have c4b0 : decide (64 < (l0_0.length : Int)) = false := decide_eq_false c4
      have c4b1 : decide (64 < l0_0.length) = false := decide_eq_false (by omega)
      clear c4
      (first | rw [c4b0] | (simp only [i64_w, i32_w]; rw [c4b0]) | skip)
      by_cases c6 : (l0_1.length : Int) > 64
      · rw [if_pos c6] at H
        have c6b0 : decide (64 < (l0_1.length : Int)) = true := decide_eq_true c6
        have c6b1 : decide (64 < l0_1.length) = true := decide_eq_true (by omega)
        clear c6
        have H' := Aside0.mk H
        clear H
        have hcz7_0 : w3.cell? ⟨gb755, 0, none⟩ = some (.slice A0_0 l0_0.length c0_0) := (blk_cell BK755.out 0).trans rfl
        have hcz7_1 : w3.cell? ⟨gb755, 1, none⟩ = some (.slice A0_1 l0_1.length c0_1) := (blk_cell BK755.out 1).trans rfl
        have hcz7_2 : w3.cell? ⟨gb755, 2, none⟩ = some (.slice A0_2 l0_2.length c0_2) := (blk_cell BK755.out 2).trans rfl
        have hcz7_3 : w3.cell? ⟨gb755, 3, none⟩ = some (.slice A0_3 l0_3.length c0_3) := (blk_cell BK755.out 3).trans rfl
        have hfz7_0 := blk_frozen BK755.out 0
        have hfz7_1 := blk_frozen BK755.out 1
        have hfz7_2 := blk_frozen BK755.out 2
        have hfz7_3 := blk_frozen BK755.out 3
        go_wp2
        repeat (go_quiet (fail); try go_wp2)
        go_meet
        case rel => exact ⟨_, (true), (by first | rfl | (simp; done) | (simp [*]; done)), H', ⟨by first | omega | exact Nat.le_refl _⟩, ⟨by (with_reducible repeat (first | refine blk_drewN ?_ _ | refine blk_drew ?_ | refine blk_alloc ?_ _)); exact BK755.out⟩, ⟨bel_⟩⟩
      · rw [if_neg c6] at H
        have c6b0 : decide (64 < (l0_1.length : Int)) = false := decide_eq_false c6
        have c6b1 : decide (64 < l0_1.length) = false := decide_eq_false (by omega)
        clear c6
        by_cases c8 : (l0_2.length : Int) > 64
        · rw [if_pos c8] at H
          have c8b0 : decide (64 < (l0_2.length : Int)) = true := decide_eq_true c8
          have c8b1 : decide (64 < l0_2.length) = true := decide_eq_true (by omega)
          clear c8
          have H' := Aside0.mk H
          clear H
          have hcz9_0 : w3.cell? ⟨gb755, 0, none⟩ = some (.slice A0_0 l0_0.length c0_0) := (blk_cell BK755.out 0).trans rfl
          have hcz9_1 : w3.cell? ⟨gb755, 1, none⟩ = some (.slice A0_1 l0_1.length c0_1) := (blk_cell BK755.out 1).trans rfl
          have hcz9_2 : w3.cell? ⟨gb755, 2, none⟩ = some (.slice A0_2 l0_2.length c0_2) := (blk_cell BK755.out 2).trans rfl
          have hcz9_3 : w3.cell? ⟨gb755, 3, none⟩ = some (.slice A0_3 l0_3.length c0_3) := (blk_cell BK755.out 3).trans rfl
          have hfz9_0 := blk_frozen BK755.out 0
          have hfz9_1 := blk_frozen BK755.out 1
          have hfz9_2 := blk_frozen BK755.out 2
          have hfz9_3 := blk_frozen BK755.out 3
          go_wp2
          repeat (go_quiet (fail); try go_wp2)
          go_meet
          case rel => exact ⟨_, (true), (by first | rfl | (simp; done) | (simp [*]; done)), H', ⟨by first | omega | exact Nat.le_refl _⟩, ⟨by (with_reducible repeat (first | refine blk_drewN ?_ _ | refine blk_drew ?_ | refine blk_alloc ?_ _)); exact BK755.out⟩, ⟨bel_⟩⟩
        · rw [if_neg c8] at H
          have c8b0 : decide (64 < (l0_2.length : Int)) = false := decide_eq_false c8
          have c8b1 : decide (64 < l0_2.length) = false := decide_eq_false (by omega)
          clear c8
          have H' := Aside0.mk H
          clear H
          have hcz10_0 : w3.cell? ⟨gb755, 0, none⟩ = some (.slice A0_0 l0_0.length c0_0) := (blk_cell BK755.out 0).trans rfl
          have hcz10_1 : w3.cell? ⟨gb755, 1, none⟩ = some (.slice A0_1 l0_1.length c0_1) := (blk_cell BK755.out 1).trans rfl
          have hcz10_2 : w3.cell? ⟨gb755, 2, none⟩ = some (.slice A0_2 l0_2.length c0_2) := (blk_cell BK755.out 2).trans rfl
          have hcz10_3 : w3.cell? ⟨gb755, 3, none⟩ = some (.slice A0_3 l0_3.length c0_3) := (blk_cell BK755.out 3).trans rfl
          have hfz10_0 := blk_frozen BK755.out 0
          have hfz10_1 := blk_frozen BK755.out 1
          have hfz10_2 := blk_frozen BK755.out 2
          have hfz10_3 := blk_frozen BK755.out 3
          go_wp2
          repeat (go_quiet (fail); try go_wp2)
          go_meet
          case rel => exact ⟨_, (decide ((l0_3.length : Int) > 64)), (by first | rfl | (simp; done) | (simp [*]; done)), H', ⟨by first | omega | exact Nat.le_refl _⟩, ⟨by (with_reducible repeat (first | refine blk_drewN ?_ _ | refine blk_drew ?_ | refine blk_alloc ?_ _)); exact BK755.out⟩, ⟨bel_⟩⟩
  case rest =>
    clear HC2
    try clear p2
    try clear c4
    try clear c4b0
    try clear c4b1
    try clear c6
    try clear c6b0
    try clear c6b1
    try clear c8
    try clear c8b0
    try clear c8b1
    try clear hcz10_0
    try clear hcz10_1
    try clear hcz10_2
    try clear hcz10_3
    try clear hcz5_0
    try clear hcz5_1
    try clear hcz5_2
    try clear hcz5_3
    try clear hcz7_0
    try clear hcz7_1
    try clear hcz7_2
    try clear hcz7_3
    try clear hcz9_0
    try clear hcz9_1
    try clear hcz9_2
    try clear hcz9_3
    try clear hfz10_0
    try clear hfz10_1
    try clear hfz10_2
    try clear hfz10_3
    try clear hfz5_0
    try clear hfz5_1
    try clear hfz5_2
    try clear hfz5_3
    try clear hfz7_0
    try clear hfz7_1
    try clear hfz7_2
    try clear hfz7_3
    try clear hfz9_0
    try clear hfz9_1
    try clear hfz9_2
    try clear hfz9_3
    obtain ⟨kq, x32_1, rfl, HA, HJ1, BK755, HB⟩ := hcut
    cases kq with
    | zero => exact absurd HA.out (by simp [sequentref14_Valid.j0])
    | succ kj1 =>
      have H := HA.out
      clear HA
      simp only [sequentref14_Valid.j0] at H
      by_cases c11 : x32_1 = true
      · subst c11
        have H1 : (some false) = some r := by rw [if_pos rfl] at H; exact H
        clear H
        have H := H1
        clear H1
        obtain rfl := Option.some.inj H
        go_wp2
        repeat (go_quiet (fail); try go_wp2)
        go_ret
        exact ⟨by first | rfl | (simp [errW_none, errW_some] <;> rfl) | (simp [*, errW_none, errW_some] <;> rfl), bel_⟩
      · replace c11 := Bool.eq_false_iff.mpr c11
        subst c11
        have H1 : ((sequentref14_Operators.f kj1 l0_0 l0_1 l0_2 l0_3).bind fun t756 => ((sequentref14_distinct.f kj1 t756).bind fun t759 => (if t759 = true then ((sequentref14_Overloads.f kj1 l0_0 l0_1 l0_2 l0_3).bind fun t760 => ((sequentref14_distinct.f kj1 t760).bind fun t763 => (sequentref14_Valid.j1 kj1 (!t763) l0_0 l0_1 l0_2 l0_3))) else (sequentref14_Valid.j1 kj1 true l0_0 l0_1 l0_2 l0_3)))) = some r := by rw [if_neg (show ¬ (false = true) by decide)] at H; exact H
        clear H
        have H := H1
        clear H1
        have HC12 := Aside0.mk H
        clear H
        go_upto_region 3 with (fail)
        repeat (go_quiet (fail); go_upto_region 3 with (fail))
        go_cut [42] (fun v42 wc => ∃ (kq : Nat) (x42_11 : Bool), v42 = .bool x42_11 ∧ Aside0 (sequentref14_Valid.j1 kq x42_11 l0_0 l0_1 l0_2 l0_3 = some r) ∧ Aside0 (kq ≤ kj1) ∧ Aside0 (wc.heap[gb755]? = some (.cells #[(.slice A0_0 l0_0.length c0_0), (.slice A0_1 l0_1.length c0_1), (.slice A0_2 l0_2.length c0_2), (.slice A0_3 l0_3.length c0_3)] 69 (0, 0))) ∧ Aside0 (Below w.heap.size w wc))
        case first =>
          have H := HC12.out
          clear HC12
          replace H := Option.bind_eq_some_iff.mp H
          obtain ⟨t756, A130, H⟩ := H
          replace H : ((sequentref14_distinct.f kj1 t756).bind fun t759 => (if t759 = true then ((sequentref14_Overloads.f kj1 l0_0 l0_1 l0_2 l0_3).bind fun t760 => ((sequentref14_distinct.f kj1 t760).bind fun t763 => (sequentref14_Valid.j1 kj1 (!t763) l0_0 l0_1 l0_2 l0_3))) else (sequentref14_Valid.j1 kj1 true l0_0 l0_1 l0_2 l0_3))) = some r := H
          have A13 := Aside0.mk A130
          clear A130
          replace H := Option.bind_eq_some_iff.mp H
          obtain ⟨t759, A140, H⟩ := H
          replace H : (if t759 = true then ((sequentref14_Overloads.f kj1 l0_0 l0_1 l0_2 l0_3).bind fun t760 => ((sequentref14_distinct.f kj1 t760).bind fun t763 => (sequentref14_Valid.j1 kj1 (!t763) l0_0 l0_1 l0_2 l0_3))) else (sequentref14_Valid.j1 kj1 true l0_0 l0_1 l0_2 l0_3)) = some r := H
          have A14 := Aside0.mk A140
          clear A140
          by_cases c15 : t759 = true
          · subst c15
            have H1 : ((sequentref14_Overloads.f kj1 l0_0 l0_1 l0_2 l0_3).bind fun t760 => ((sequentref14_distinct.f kj1 t760).bind fun t763 => (sequentref14_Valid.j1 kj1 (!t763) l0_0 l0_1 l0_2 l0_3))) = some r := by rw [if_pos rfl] at H; exact H
            clear H
            have H := H1
            clear H1
            replace H := Option.bind_eq_some_iff.mp H
            obtain ⟨t760, A160, H⟩ := H
            replace H : ((sequentref14_distinct.f kj1 t760).bind fun t763 => (sequentref14_Valid.j1 kj1 (!t763) l0_0 l0_1 l0_2 l0_3)) = some r := H
            have A16 := Aside0.mk A160
            clear A160
            replace H := Option.bind_eq_some_iff.mp H
            obtain ⟨t763, A170, H⟩ := H
            replace H : (sequentref14_Valid.j1 kj1 (!t763) l0_0 l0_1 l0_2 l0_3) = some r := H
            have A17 := Aside0.mk A170
            clear A170
            have H' := Aside0.mk H
            clear H
            have hcz18_0 : wc.cell? ⟨gb755, 0, none⟩ = some (.slice A0_0 l0_0.length c0_0) := (blk_cell BK755.out 0).trans rfl
            have hcz18_1 : wc.cell? ⟨gb755, 1, none⟩ = some (.slice A0_1 l0_1.length c0_1) := (blk_cell BK755.out 1).trans rfl
            have hcz18_2 : wc.cell? ⟨gb755, 2, none⟩ = some (.slice A0_2 l0_2.length c0_2) := (blk_cell BK755.out 2).trans rfl
            have hcz18_3 : wc.cell? ⟨gb755, 3, none⟩ = some (.slice A0_3 l0_3.length c0_3) := (blk_cell BK755.out 3).trans rfl
            have hfz18_0 := blk_frozen BK755.out 0
            have hfz18_1 := blk_frozen BK755.out 1
            have hfz18_2 := blk_frozen BK755.out 2
            have hfz18_3 := blk_frozen BK755.out 3
            go_wp2_with (first | (go_at_call 77; (with_reducible refine (sequentref14_Operators.calls kj1 _ _ l0_0 _ _ l0_1 _ _ l0_2 _ _ l0_3 t756 _ ?side1 ?side2 ?side3 ?side4 ?side5 ?side6 ?side7 ?side8 A13.out).mono ?_); (case side1 => repeat (first | exact (Kd.C_below HR0_0.out HB.out) | (with_reducible refine Kd.C_alloc ?_ _) | (with_reducible refine Kd.C_drewN ?_ _) | (with_reducible refine Kd.C_drew ?_))); (case side2 => exact HC0_0.out); (case side3 => repeat (first | exact (Kd.C_below HR0_1.out HB.out) | (with_reducible refine Kd.C_alloc ?_ _) | (with_reducible refine Kd.C_drewN ?_ _) | (with_reducible refine Kd.C_drew ?_))); (case side4 => exact HC0_1.out); (case side5 => repeat (first | exact (Kd.C_below HR0_2.out HB.out) | (with_reducible refine Kd.C_alloc ?_ _) | (with_reducible refine Kd.C_drewN ?_ _) | (with_reducible refine Kd.C_drew ?_))); (case side6 => exact HC0_2.out); (case side7 => repeat (first | exact (Kd.C_below HR0_3.out HB.out) | (with_reducible refine Kd.C_alloc ?_ _) | (with_reducible refine Kd.C_drewN ?_ _) | (with_reducible refine Kd.C_drew ?_))); (case side8 => exact HC0_3.out); rintro e w19 ⟨v757, rfl, ho0, hb⟩; have n0_ := Aside0.mk (Kd.R_lower ho0 (below_size bel_)); have n1_ := Aside0.mk (blk_below (g := gb755) (o := .cells #[.slice A0_0 l0_0.length c0_0, .slice A0_1 l0_1.length c0_1, .slice A0_2 l0_2.length c0_2, .slice A0_3 l0_3.length c0_3] 69 (0, 0)) (by (with_reducible repeat (first | refine blk_drewN ?_ _ | refine blk_drew ?_ | refine blk_alloc ?_ _)); exact BK755.out) hb); have n2_ := Aside0.mk (below_step bel_ hb); clear BK755; clear HB; have HO758 := n0_; have BK755 := n1_; have HB := n2_; clear n0_ n1_ n2_; (try clear hb); (try clear hb2); (try clear hk); (try clear hi); (try clear ho0); obtain ⟨Ao20, co20, eo20⟩ := Kd.R_slice HO758.out; subst eo20) | (go_at_call 114; (with_reducible refine (sequentref14_distinct.calls kj1 _ _ t756 true _ ?side1 ?side2 A14.out).mono ?_); (case side1 => repeat (first | exact (Kd.R_reads' HO758.out).2.2 | (with_reducible refine Kd.C_alloc ?_ _) | (with_reducible refine Kd.C_drewN ?_ _) | (with_reducible refine Kd.C_drew ?_))); (case side2 => exact (Kd.R_reads' HO758.out).2.1); rintro e w' ⟨rfl, ⟨nd, rfl⟩⟩; (try first | exact ⟨rfl, _, World.drewN_drewN _ _ _⟩ | exact ⟨rfl, _, Eq.trans (World.drewN_drewN _ _ _) (congrArg (World.drewN _) (Nat.add_assoc _ _ _))⟩); have hcz21_0 : w19.cell? ⟨gb755, 0, none⟩ = some (.slice A0_0 l0_0.length c0_0) := (blk_cell BK755.out 0).trans rfl; have hcz21_1 : w19.cell? ⟨gb755, 1, none⟩ = some (.slice A0_1 l0_1.length c0_1) := (blk_cell BK755.out 1).trans rfl; have hcz21_2 : w19.cell? ⟨gb755, 2, none⟩ = some (.slice A0_2 l0_2.length c0_2) := (blk_cell BK755.out 2).trans rfl; have hcz21_3 : w19.cell? ⟨gb755, 3, none⟩ = some (.slice A0_3 l0_3.length c0_3) := (blk_cell BK755.out 3).trans rfl; have hfz21_0 := blk_frozen BK755.out 0; have hfz21_1 := blk_frozen BK755.out 1; have hfz21_2 := blk_frozen BK755.out 2; have hfz21_3 := blk_frozen BK755.out 3) | (go_at_call 78; (with_reducible refine (sequentref14_Overloads.calls kj1 _ _ l0_0 _ _ l0_1 _ _ l0_2 _ _ l0_3 t760 _ ?side1 ?side2 ?side3 ?side4 ?side5 ?side6 ?side7 ?side8 A16.out).mono ?_); (case side1 => repeat (first | exact (Kd.C_below HR0_0.out bel_) | (with_reducible refine Kd.C_alloc ?_ _) | (with_reducible refine Kd.C_drewN ?_ _) | (with_reducible refine Kd.C_drew ?_))); (case side2 => exact HC0_0.out); (case side3 => repeat (first | exact (Kd.C_below HR0_1.out bel_) | (with_reducible refine Kd.C_alloc ?_ _) | (with_reducible refine Kd.C_drewN ?_ _) | (with_reducible refine Kd.C_drew ?_))); (case side4 => exact HC0_1.out); (case side5 => repeat (first | exact (Kd.C_below HR0_2.out bel_) | (with_reducible refine Kd.C_alloc ?_ _) | (with_reducible refine Kd.C_drewN ?_ _) | (with_reducible refine Kd.C_drew ?_))); (case side6 => exact HC0_2.out); (case side7 => repeat (first | exact (Kd.C_below HR0_3.out bel_) | (with_reducible refine Kd.C_alloc ?_ _) | (with_reducible refine Kd.C_drewN ?_ _) | (with_reducible refine Kd.C_drew ?_))); (case side8 => exact HC0_3.out); rintro e w22 ⟨v761, rfl, ho0, hb⟩; have n0_ := Aside0.mk (Kd.R_elder' (by (with_reducible repeat (first | apply Kd.R_alloc | apply Kd.R_drewN | apply Kd.R_drew)); exact HO758.out) (Kd.R_base ho0) hb); have n1_ := Aside0.mk (Kd.R_lower (Kd.R_new' ho0 (Kd.R_lt (by (with_reducible repeat (first | apply Kd.R_alloc | apply Kd.R_drewN | apply Kd.R_drew)); exact HO758.out))) (below_size bel_)); have n2_ := Aside0.mk (blk_below (g := gb755) (o := .cells #[.slice A0_0 l0_0.length c0_0, .slice A0_1 l0_1.length c0_1, .slice A0_2 l0_2.length c0_2, .slice A0_3 l0_3.length c0_3] 69 (0, 0)) (by (with_reducible repeat (first | refine blk_drewN ?_ _ | refine blk_drew ?_ | refine blk_alloc ?_ _)); exact BK755.out) hb); have n3_ := Aside0.mk (below_step bel_ hb); clear HO758; clear BK755; clear HB; have HO758 := n0_; have HO762 := n1_; have BK755 := n2_; have HB := n3_; clear n0_ n1_ n2_ n3_; (try clear hb); (try clear hb2); (try clear hk); (try clear hi); (try clear ho0); obtain ⟨Ao23, co23, eo23⟩ := Kd.R_slice HO762.out; subst eo23) | (go_at_call 114; (with_reducible refine (sequentref14_distinct.calls kj1 _ _ t760 t763 _ ?side1 ?side2 A17.out).mono ?_); (case side1 => repeat (first | exact (Kd.R_reads' HO762.out).2.2 | (with_reducible refine Kd.C_alloc ?_ _) | (with_reducible refine Kd.C_drewN ?_ _) | (with_reducible refine Kd.C_drew ?_))); (case side2 => exact (Kd.R_reads' HO762.out).2.1); rintro e w' ⟨rfl, ⟨nd, rfl⟩⟩; (try first | exact ⟨rfl, _, World.drewN_drewN _ _ _⟩ | exact ⟨rfl, _, Eq.trans (World.drewN_drewN _ _ _) (congrArg (World.drewN _) (Nat.add_assoc _ _ _))⟩)))
            repeat (go_quiet (first | (go_at_call 77; (with_reducible refine (sequentref14_Operators.calls kj1 _ _ l0_0 _ _ l0_1 _ _ l0_2 _ _ l0_3 t756 _ ?side1 ?side2 ?side3 ?side4 ?side5 ?side6 ?side7 ?side8 A13.out).mono ?_); (case side1 => repeat (first | exact (Kd.C_below HR0_0.out HB.out) | (with_reducible refine Kd.C_alloc ?_ _) | (with_reducible refine Kd.C_drewN ?_ _) | (with_reducible refine Kd.C_drew ?_))); (case side2 => exact HC0_0.out); (case side3 => repeat (first | exact (Kd.C_below HR0_1.out HB.out) | (with_reducible refine Kd.C_alloc ?_ _) | (with_reducible refine Kd.C_drewN ?_ _) | (with_reducible refine Kd.C_drew ?_))); (case side4 => exact HC0_1.out); (case side5 => repeat (first | exact (Kd.C_below HR0_2.out HB.out) | (with_reducible refine Kd.C_alloc ?_ _) | (with_reducible refine Kd.C_drewN ?_ _) | (with_reducible refine Kd.C_drew ?_))); (case side6 => exact HC0_2.out); (case side7 => repeat (first | exact (Kd.C_below HR0_3.out HB.out) | (with_reducible refine Kd.C_alloc ?_ _) | (with_reducible refine Kd.C_drewN ?_ _) | (with_reducible refine Kd.C_drew ?_))); (case side8 => exact HC0_3.out); rintro e w19 ⟨v757, rfl, ho0, hb⟩; have n0_ := Aside0.mk (Kd.R_lower ho0 (below_size bel_)); have n1_ := Aside0.mk (blk_below (g := gb755) (o := .cells #[.slice A0_0 l0_0.length c0_0, .slice A0_1 l0_1.length c0_1, .slice A0_2 l0_2.length c0_2, .slice A0_3 l0_3.length c0_3] 69 (0, 0)) (by (with_reducible repeat (first | refine blk_drewN ?_ _ | refine blk_drew ?_ | refine blk_alloc ?_ _)); exact BK755.out) hb); have n2_ := Aside0.mk (below_step bel_ hb); clear BK755; clear HB; have HO758 := n0_; have BK755 := n1_; have HB := n2_; clear n0_ n1_ n2_; (try clear hb); (try clear hb2); (try clear hk); (try clear hi); (try clear ho0); obtain ⟨Ao20, co20, eo20⟩ := Kd.R_slice HO758.out; subst eo20) | (go_at_call 114; (with_reducible refine (sequentref14_distinct.calls kj1 _ _ t756 true _ ?side1 ?side2 A14.out).mono ?_); (case side1 => repeat (first | exact (Kd.R_reads' HO758.out).2.2 | (with_reducible refine Kd.C_alloc ?_ _) | (with_reducible refine Kd.C_drewN ?_ _) | (with_reducible refine Kd.C_drew ?_))); (case side2 => exact (Kd.R_reads' HO758.out).2.1); rintro e w' ⟨rfl, ⟨nd, rfl⟩⟩; (try first | exact ⟨rfl, _, World.drewN_drewN _ _ _⟩ | exact ⟨rfl, _, Eq.trans (World.drewN_drewN _ _ _) (congrArg (World.drewN _) (Nat.add_assoc _ _ _))⟩); have hcz21_0 : w19.cell? ⟨gb755, 0, none⟩ = some (.slice A0_0 l0_0.length c0_0) := (blk_cell BK755.out 0).trans rfl; have hcz21_1 : w19.cell? ⟨gb755, 1, none⟩ = some (.slice A0_1 l0_1.length c0_1) := (blk_cell BK755.out 1).trans rfl; have hcz21_2 : w19.cell? ⟨gb755, 2, none⟩ = some (.slice A0_2 l0_2.length c0_2) := (blk_cell BK755.out 2).trans rfl; have hcz21_3 : w19.cell? ⟨gb755, 3, none⟩ = some (.slice A0_3 l0_3.length c0_3) := (blk_cell BK755.out 3).trans rfl; have hfz21_0 := blk_frozen BK755.out 0; have hfz21_1 := blk_frozen BK755.out 1; have hfz21_2 := blk_frozen BK755.out 2; have hfz21_3 := blk_frozen BK755.out 3) | (go_at_call 78; (with_reducible refine (sequentref14_Overloads.calls kj1 _ _ l0_0 _ _ l0_1 _ _ l0_2 _ _ l0_3 t760 _ ?side1 ?side2 ?side3 ?side4 ?side5 ?side6 ?side7 ?side8 A16.out).mono ?_); (case side1 => repeat (first | exact (Kd.C_below HR0_0.out bel_) | (with_reducible refine Kd.C_alloc ?_ _) | (with_reducible refine Kd.C_drewN ?_ _) | (with_reducible refine Kd.C_drew ?_))); (case side2 => exact HC0_0.out); (case side3 => repeat (first | exact (Kd.C_below HR0_1.out bel_) | (with_reducible refine Kd.C_alloc ?_ _) | (with_reducible refine Kd.C_drewN ?_ _) | (with_reducible refine Kd.C_drew ?_))); (case side4 => exact HC0_1.out); (case side5 => repeat (first | exact (Kd.C_below HR0_2.out bel_) | (with_reducible refine Kd.C_alloc ?_ _) | (with_reducible refine Kd.C_drewN ?_ _) | (with_reducible refine Kd.C_drew ?_))); (case side6 => exact HC0_2.out); (case side7 => repeat (first | exact (Kd.C_below HR0_3.out bel_) | (with_reducible refine Kd.C_alloc ?_ _) | (with_reducible refine Kd.C_drewN ?_ _) | (with_reducible refine Kd.C_drew ?_))); (case side8 => exact HC0_3.out); rintro e w22 ⟨v761, rfl, ho0, hb⟩; have n0_ := Aside0.mk (Kd.R_elder' (by (with_reducible repeat (first | apply Kd.R_alloc | apply Kd.R_drewN | apply Kd.R_drew)); exact HO758.out) (Kd.R_base ho0) hb); have n1_ := Aside0.mk (Kd.R_lower (Kd.R_new' ho0 (Kd.R_lt (by (with_reducible repeat (first | apply Kd.R_alloc | apply Kd.R_drewN | apply Kd.R_drew)); exact HO758.out))) (below_size bel_)); have n2_ := Aside0.mk (blk_below (g := gb755) (o := .cells #[.slice A0_0 l0_0.length c0_0, .slice A0_1 l0_1.length c0_1, .slice A0_2 l0_2.length c0_2, .slice A0_3 l0_3.length c0_3] 69 (0, 0)) (by (with_reducible repeat (first | refine blk_drewN ?_ _ | refine blk_drew ?_ | refine blk_alloc ?_ _)); exact BK755.out) hb); have n3_ := Aside0.mk (below_step bel_ hb); clear HO758; clear BK755; clear HB; have HO758 := n0_; have HO762 := n1_; have BK755 := n2_; have HB := n3_; clear n0_ n1_ n2_ n3_; (try clear hb); (try clear hb2); (try clear hk); (try clear hi); (try clear ho0); obtain ⟨Ao23, co23, eo23⟩ := Kd.R_slice HO762.out; subst eo23) | (go_at_call 114; (with_reducible refine (sequentref14_distinct.calls kj1 _ _ t760 t763 _ ?side1 ?side2 A17.out).mono ?_); (case side1 => repeat (first | exact (Kd.R_reads' HO762.out).2.2 | (with_reducible refine Kd.C_alloc ?_ _) | (with_reducible refine Kd.C_drewN ?_ _) | (with_reducible refine Kd.C_drew ?_))); (case side2 => exact (Kd.R_reads' HO762.out).2.1); rintro e w' ⟨rfl, ⟨nd, rfl⟩⟩; (try first | exact ⟨rfl, _, World.drewN_drewN _ _ _⟩ | exact ⟨rfl, _, Eq.trans (World.drewN_drewN _ _ _) (congrArg (World.drewN _) (Nat.add_assoc _ _ _))⟩))); try go_wp2_with (first | (go_at_call 77; (with_reducible refine (sequentref14_Operators.calls kj1 _ _ l0_0 _ _ l0_1 _ _ l0_2 _ _ l0_3 t756 _ ?side1 ?side2 ?side3 ?side4 ?side5 ?side6 ?side7 ?side8 A13.out).mono ?_); (case side1 => repeat (first | exact (Kd.C_below HR0_0.out HB.out) | (with_reducible refine Kd.C_alloc ?_ _) | (with_reducible refine Kd.C_drewN ?_ _) | (with_reducible refine Kd.C_drew ?_))); (case side2 => exact HC0_0.out); (case side3 => repeat (first | exact (Kd.C_below HR0_1.out HB.out) | (with_reducible refine Kd.C_alloc ?_ _) | (with_reducible refine Kd.C_drewN ?_ _) | (with_reducible refine Kd.C_drew ?_))); (case side4 => exact HC0_1.out); (case side5 => repeat (first | exact (Kd.C_below HR0_2.out HB.out) | (with_reducible refine Kd.C_alloc ?_ _) | (with_reducible refine Kd.C_drewN ?_ _) | (with_reducible refine Kd.C_drew ?_))); (case side6 => exact HC0_2.out); (case side7 => repeat (first | exact (Kd.C_below HR0_3.out HB.out) | (with_reducible refine Kd.C_alloc ?_ _) | (with_reducible refine Kd.C_drewN ?_ _) | (with_reducible refine Kd.C_drew ?_))); (case side8 => exact HC0_3.out); rintro e w19 ⟨v757, rfl, ho0, hb⟩; have n0_ := Aside0.mk (Kd.R_lower ho0 (below_size bel_)); have n1_ := Aside0.mk (blk_below (g := gb755) (o := .cells #[.slice A0_0 l0_0.length c0_0, .slice A0_1 l0_1.length c0_1, .slice A0_2 l0_2.length c0_2, .slice A0_3 l0_3.length c0_3] 69 (0, 0)) (by (with_reducible repeat (first | refine blk_drewN ?_ _ | refine blk_drew ?_ | refine blk_alloc ?_ _)); exact BK755.out) hb); have n2_ := Aside0.mk (below_step bel_ hb); clear BK755; clear HB; have HO758 := n0_; have BK755 := n1_; have HB := n2_; clear n0_ n1_ n2_; (try clear hb); (try clear hb2); (try clear hk); (try clear hi); (try clear ho0); obtain ⟨Ao20, co20, eo20⟩ := Kd.R_slice HO758.out; subst eo20) | (go_at_call 114; (with_reducible refine (sequentref14_distinct.calls kj1 _ _ t756 true _ ?side1 ?side2 A14.out).mono ?_); (case side1 => repeat (first | exact (Kd.R_reads' HO758.out).2.2 | (with_reducible refine Kd.C_alloc ?_ _) | (with_reducible refine Kd.C_drewN ?_ _) | (with_reducible refine Kd.C_drew ?_))); (case side2 => exact (Kd.R_reads' HO758.out).2.1); rintro e w' ⟨rfl, ⟨nd, rfl⟩⟩; (try first | exact ⟨rfl, _, World.drewN_drewN _ _ _⟩ | exact ⟨rfl, _, Eq.trans (World.drewN_drewN _ _ _) (congrArg (World.drewN _) (Nat.add_assoc _ _ _))⟩); have hcz21_0 : w19.cell? ⟨gb755, 0, none⟩ = some (.slice A0_0 l0_0.length c0_0) := (blk_cell BK755.out 0).trans rfl; have hcz21_1 : w19.cell? ⟨gb755, 1, none⟩ = some (.slice A0_1 l0_1.length c0_1) := (blk_cell BK755.out 1).trans rfl; have hcz21_2 : w19.cell? ⟨gb755, 2, none⟩ = some (.slice A0_2 l0_2.length c0_2) := (blk_cell BK755.out 2).trans rfl; have hcz21_3 : w19.cell? ⟨gb755, 3, none⟩ = some (.slice A0_3 l0_3.length c0_3) := (blk_cell BK755.out 3).trans rfl; have hfz21_0 := blk_frozen BK755.out 0; have hfz21_1 := blk_frozen BK755.out 1; have hfz21_2 := blk_frozen BK755.out 2; have hfz21_3 := blk_frozen BK755.out 3) | (go_at_call 78; (with_reducible refine (sequentref14_Overloads.calls kj1 _ _ l0_0 _ _ l0_1 _ _ l0_2 _ _ l0_3 t760 _ ?side1 ?side2 ?side3 ?side4 ?side5 ?side6 ?side7 ?side8 A16.out).mono ?_); (case side1 => repeat (first | exact (Kd.C_below HR0_0.out bel_) | (with_reducible refine Kd.C_alloc ?_ _) | (with_reducible refine Kd.C_drewN ?_ _) | (with_reducible refine Kd.C_drew ?_))); (case side2 => exact HC0_0.out); (case side3 => repeat (first | exact (Kd.C_below HR0_1.out bel_) | (with_reducible refine Kd.C_alloc ?_ _) | (with_reducible refine Kd.C_drewN ?_ _) | (with_reducible refine Kd.C_drew ?_))); (case side4 => exact HC0_1.out); (case side5 => repeat (first | exact (Kd.C_below HR0_2.out bel_) | (with_reducible refine Kd.C_alloc ?_ _) | (with_reducible refine Kd.C_drewN ?_ _) | (with_reducible refine Kd.C_drew ?_))); (case side6 => exact HC0_2.out); (case side7 => repeat (first | exact (Kd.C_below HR0_3.out bel_) | (with_reducible refine Kd.C_alloc ?_ _) | (with_reducible refine Kd.C_drewN ?_ _) | (with_reducible refine Kd.C_drew ?_))); (case side8 => exact HC0_3.out); rintro e w22 ⟨v761, rfl, ho0, hb⟩; have n0_ := Aside0.mk (Kd.R_elder' (by (with_reducible repeat (first | apply Kd.R_alloc | apply Kd.R_drewN | apply Kd.R_drew)); exact HO758.out) (Kd.R_base ho0) hb); have n1_ := Aside0.mk (Kd.R_lower (Kd.R_new' ho0 (Kd.R_lt (by (with_reducible repeat (first | apply Kd.R_alloc | apply Kd.R_drewN | apply Kd.R_drew)); exact HO758.out))) (below_size bel_)); have n2_ := Aside0.mk (blk_below (g := gb755) (o := .cells #[.slice A0_0 l0_0.length c0_0, .slice A0_1 l0_1.length c0_1, .slice A0_2 l0_2.length c0_2, .slice A0_3 l0_3.length c0_3] 69 (0, 0)) (by (with_reducible repeat (first | refine blk_drewN ?_ _ | refine blk_drew ?_ | refine blk_alloc ?_ _)); exact BK755.out) hb); have n3_ := Aside0.mk (below_step bel_ hb); clear HO758; clear BK755; clear HB; have HO758 := n0_; have HO762 := n1_; have BK755 := n2_; have HB := n3_; clear n0_ n1_ n2_ n3_; (try clear hb); (try clear hb2); (try clear hk); (try clear hi); (try clear ho0); obtain ⟨Ao23, co23, eo23⟩ := Kd.R_slice HO762.out; subst eo23) | (go_at_call 114; (with_reducible refine (sequentref14_distinct.calls kj1 _ _ t760 t763 _ ?side1 ?side2 A17.out).mono ?_); (case side1 => repeat (first | exact (Kd.R_reads' HO762.out).2.2 | (with_reducible refine Kd.C_alloc ?_ _) | (with_reducible refine Kd.C_drewN ?_ _) | (with_reducible refine Kd.C_drew ?_))); (case side2 => exact (Kd.R_reads' HO762.out).2.1); rintro e w' ⟨rfl, ⟨nd, rfl⟩⟩; (try first | exact ⟨rfl, _, World.drewN_drewN _ _ _⟩ | exact ⟨rfl, _, Eq.trans (World.drewN_drewN _ _ _) (congrArg (World.drewN _) (Nat.add_assoc _ _ _))⟩))))
            go_meet
            case rel => exact ⟨_, (!t763), (by first | rfl | (simp; done) | (simp [*]; done)), H', ⟨by have := HJ1.out; first | omega | exact Nat.le_refl _⟩, ⟨by (with_reducible repeat (first | refine blk_drewN ?_ _ | refine blk_drew ?_ | refine blk_alloc ?_ _)); exact BK755.out⟩, ⟨bel_⟩⟩
          · replace c15 := Bool.eq_false_iff.mpr c15
            subst c15
            have H1 : (sequentref14_Valid.j1 kj1 true l0_0 l0_1 l0_2 l0_3) = some r := by rw [if_neg (show ¬ (false = true) by decide)] at H; exact H
            clear H
            have H := H1
            clear H1
            have H' := Aside0.mk H
            clear H
            have hcz24_0 : wc.cell? ⟨gb755, 0, none⟩ = some (.slice A0_0 l0_0.length c0_0) := (blk_cell BK755.out 0).trans rfl
            have hcz24_1 : wc.cell? ⟨gb755, 1, none⟩ = some (.slice A0_1 l0_1.length c0_1) := (blk_cell BK755.out 1).trans rfl
            have hcz24_2 : wc.cell? ⟨gb755, 2, none⟩ = some (.slice A0_2 l0_2.length c0_2) := (blk_cell BK755.out 2).trans rfl
            have hcz24_3 : wc.cell? ⟨gb755, 3, none⟩ = some (.slice A0_3 l0_3.length c0_3) := (blk_cell BK755.out 3).trans rfl
            have hfz24_0 := blk_frozen BK755.out 0
            have hfz24_1 := blk_frozen BK755.out 1
            have hfz24_2 := blk_frozen BK755.out 2
            have hfz24_3 := blk_frozen BK755.out 3
            go_wp2_with (first | (go_at_call 77; (with_reducible refine (sequentref14_Operators.calls kj1 _ _ l0_0 _ _ l0_1 _ _ l0_2 _ _ l0_3 t756 _ ?side1 ?side2 ?side3 ?side4 ?side5 ?side6 ?side7 ?side8 A13.out).mono ?_); (case side1 => repeat (first | exact (Kd.C_below HR0_0.out HB.out) | (with_reducible refine Kd.C_alloc ?_ _) | (with_reducible refine Kd.C_drewN ?_ _) | (with_reducible refine Kd.C_drew ?_))); (case side2 => exact HC0_0.out); (case side3 => repeat (first | exact (Kd.C_below HR0_1.out HB.out) | (with_reducible refine Kd.C_alloc ?_ _) | (with_reducible refine Kd.C_drewN ?_ _) | (with_reducible refine Kd.C_drew ?_))); (case side4 => exact HC0_1.out); (case side5 => repeat (first | exact (Kd.C_below HR0_2.out HB.out) | (with_reducible refine Kd.C_alloc ?_ _) | (with_reducible refine Kd.C_drewN ?_ _) | (with_reducible refine Kd.C_drew ?_))); (case side6 => exact HC0_2.out); (case side7 => repeat (first | exact (Kd.C_below HR0_3.out HB.out) | (with_reducible refine Kd.C_alloc ?_ _) | (with_reducible refine Kd.C_drewN ?_ _) | (with_reducible refine Kd.C_drew ?_))); (case side8 => exact HC0_3.out); rintro e w25 ⟨v757, rfl, ho0, hb⟩; have n0_ := Aside0.mk (Kd.R_lower ho0 (below_size bel_)); have n1_ := Aside0.mk (blk_below (g := gb755) (o := .cells #[.slice A0_0 l0_0.length c0_0, .slice A0_1 l0_1.length c0_1, .slice A0_2 l0_2.length c0_2, .slice A0_3 l0_3.length c0_3] 69 (0, 0)) (by (with_reducible repeat (first | refine blk_drewN ?_ _ | refine blk_drew ?_ | refine blk_alloc ?_ _)); exact BK755.out) hb); have n2_ := Aside0.mk (below_step bel_ hb); clear BK755; clear HB; have HO758 := n0_; have BK755 := n1_; have HB := n2_; clear n0_ n1_ n2_; (try clear hb); (try clear hb2); (try clear hk); (try clear hi); (try clear ho0); obtain ⟨Ao26, co26, eo26⟩ := Kd.R_slice HO758.out; subst eo26) | (go_at_call 114; (with_reducible refine (sequentref14_distinct.calls kj1 _ _ t756 false _ ?side1 ?side2 A14.out).mono ?_); (case side1 => repeat (first | exact (Kd.R_reads' HO758.out).2.2 | (with_reducible refine Kd.C_alloc ?_ _) | (with_reducible refine Kd.C_drewN ?_ _) | (with_reducible refine Kd.C_drew ?_))); (case side2 => exact (Kd.R_reads' HO758.out).2.1); rintro e w' ⟨rfl, ⟨nd, rfl⟩⟩; (try first | exact ⟨rfl, _, World.drewN_drewN _ _ _⟩ | exact ⟨rfl, _, Eq.trans (World.drewN_drewN _ _ _) (congrArg (World.drewN _) (Nat.add_assoc _ _ _))⟩)))
            repeat (go_quiet (first | (go_at_call 77; (with_reducible refine (sequentref14_Operators.calls kj1 _ _ l0_0 _ _ l0_1 _ _ l0_2 _ _ l0_3 t756 _ ?side1 ?side2 ?side3 ?side4 ?side5 ?side6 ?side7 ?side8 A13.out).mono ?_); (case side1 => repeat (first | exact (Kd.C_below HR0_0.out HB.out) | (with_reducible refine Kd.C_alloc ?_ _) | (with_reducible refine Kd.C_drewN ?_ _) | (with_reducible refine Kd.C_drew ?_))); (case side2 => exact HC0_0.out); (case side3 => repeat (first | exact (Kd.C_below HR0_1.out HB.out) | (with_reducible refine Kd.C_alloc ?_ _) | (with_reducible refine Kd.C_drewN ?_ _) | (with_reducible refine Kd.C_drew ?_))); (case side4 => exact HC0_1.out); (case side5 => repeat (first | exact (Kd.C_below HR0_2.out HB.out) | (with_reducible refine Kd.C_alloc ?_ _) | (with_reducible refine Kd.C_drewN ?_ _) | (with_reducible refine Kd.C_drew ?_))); (case side6 => exact HC0_2.out); (case side7 => repeat (first | exact (Kd.C_below HR0_3.out HB.out) | (with_reducible refine Kd.C_alloc ?_ _) | (with_reducible refine Kd.C_drewN ?_ _) | (with_reducible refine Kd.C_drew ?_))); (case side8 => exact HC0_3.out); rintro e w25 ⟨v757, rfl, ho0, hb⟩; have n0_ := Aside0.mk (Kd.R_lower ho0 (below_size bel_)); have n1_ := Aside0.mk (blk_below (g := gb755) (o := .cells #[.slice A0_0 l0_0.length c0_0, .slice A0_1 l0_1.length c0_1, .slice A0_2 l0_2.length c0_2, .slice A0_3 l0_3.length c0_3] 69 (0, 0)) (by (with_reducible repeat (first | refine blk_drewN ?_ _ | refine blk_drew ?_ | refine blk_alloc ?_ _)); exact BK755.out) hb); have n2_ := Aside0.mk (below_step bel_ hb); clear BK755; clear HB; have HO758 := n0_; have BK755 := n1_; have HB := n2_; clear n0_ n1_ n2_; (try clear hb); (try clear hb2); (try clear hk); (try clear hi); (try clear ho0); obtain ⟨Ao26, co26, eo26⟩ := Kd.R_slice HO758.out; subst eo26) | (go_at_call 114; (with_reducible refine (sequentref14_distinct.calls kj1 _ _ t756 false _ ?side1 ?side2 A14.out).mono ?_); (case side1 => repeat (first | exact (Kd.R_reads' HO758.out).2.2 | (with_reducible refine Kd.C_alloc ?_ _) | (with_reducible refine Kd.C_drewN ?_ _) | (with_reducible refine Kd.C_drew ?_))); (case side2 => exact (Kd.R_reads' HO758.out).2.1); rintro e w' ⟨rfl, ⟨nd, rfl⟩⟩; (try first | exact ⟨rfl, _, World.drewN_drewN _ _ _⟩ | exact ⟨rfl, _, Eq.trans (World.drewN_drewN _ _ _) (congrArg (World.drewN _) (Nat.add_assoc _ _ _))⟩))); try go_wp2_with (first | (go_at_call 77; (with_reducible refine (sequentref14_Operators.calls kj1 _ _ l0_0 _ _ l0_1 _ _ l0_2 _ _ l0_3 t756 _ ?side1 ?side2 ?side3 ?side4 ?side5 ?side6 ?side7 ?side8 A13.out).mono ?_); (case side1 => repeat (first | exact (Kd.C_below HR0_0.out HB.out) | (with_reducible refine Kd.C_alloc ?_ _) | (with_reducible refine Kd.C_drewN ?_ _) | (with_reducible refine Kd.C_drew ?_))); (case side2 => exact HC0_0.out); (case side3 => repeat (first | exact (Kd.C_below HR0_1.out HB.out) | (with_reducible refine Kd.C_alloc ?_ _) | (with_reducible refine Kd.C_drewN ?_ _) | (with_reducible refine Kd.C_drew ?_))); (case side4 => exact HC0_1.out); (case side5 => repeat (first | exact (Kd.C_below HR0_2.out HB.out) | (with_reducible refine Kd.C_alloc ?_ _) | (with_reducible refine Kd.C_drewN ?_ _) | (with_reducible refine Kd.C_drew ?_))); (case side6 => exact HC0_2.out); (case side7 => repeat (first | exact (Kd.C_below HR0_3.out HB.out) | (with_reducible refine Kd.C_alloc ?_ _) | (with_reducible refine Kd.C_drewN ?_ _) | (with_reducible refine Kd.C_drew ?_))); (case side8 => exact HC0_3.out); rintro e w25 ⟨v757, rfl, ho0, hb⟩; have n0_ := Aside0.mk (Kd.R_lower ho0 (below_size bel_)); have n1_ := Aside0.mk (blk_below (g := gb755) (o := .cells #[.slice A0_0 l0_0.length c0_0, .slice A0_1 l0_1.length c0_1, .slice A0_2 l0_2.length c0_2, .slice A0_3 l0_3.length c0_3] 69 (0, 0)) (by (with_reducible repeat (first | refine blk_drewN ?_ _ | refine blk_drew ?_ | refine blk_alloc ?_ _)); exact BK755.out) hb); have n2_ := Aside0.mk (below_step bel_ hb); clear BK755; clear HB; have HO758 := n0_; have BK755 := n1_; have HB := n2_; clear n0_ n1_ n2_; (try clear hb); (try clear hb2); (try clear hk); (try clear hi); (try clear ho0); obtain ⟨Ao26, co26, eo26⟩ := Kd.R_slice HO758.out; subst eo26) | (go_at_call 114; (with_reducible refine (sequentref14_distinct.calls kj1 _ _ t756 false _ ?side1 ?side2 A14.out).mono ?_); (case side1 => repeat (first | exact (Kd.R_reads' HO758.out).2.2 | (with_reducible refine Kd.C_alloc ?_ _) | (with_reducible refine Kd.C_drewN ?_ _) | (with_reducible refine Kd.C_drew ?_))); (case side2 => exact (Kd.R_reads' HO758.out).2.1); rintro e w' ⟨rfl, ⟨nd, rfl⟩⟩; (try first | exact ⟨rfl, _, World.drewN_drewN _ _ _⟩ | exact ⟨rfl, _, Eq.trans (World.drewN_drewN _ _ _) (congrArg (World.drewN _) (Nat.add_assoc _ _ _))⟩))))
            go_meet
            case rel => exact ⟨_, (true), (by first | rfl | (simp; done) | (simp [*]; done)), H', ⟨by have := HJ1.out; first | omega | exact Nat.le_refl _⟩, ⟨by (with_reducible repeat (first | refine blk_drewN ?_ _ | refine blk_drew ?_ | refine blk_alloc ?_ _)); exact BK755.out⟩, ⟨bel_⟩⟩
        case rest =>
          clear HC12
          try clear c1
          try clear p2
          try clear c4
          try clear c4b0
          try clear c4b1
          try clear c6
          try clear c6b0
          try clear c6b1
          try clear c8
          try clear c8b0
          try clear c8b1
          try clear c11
          try clear c15
          try clear hcz10_0
          try clear hcz10_1
          try clear hcz10_2
          try clear hcz10_3
          try clear hcz18_0
          try clear hcz18_1
          try clear hcz18_2
          try clear hcz18_3
          try clear hcz21_0
          try clear hcz21_1
          try clear hcz21_2
          try clear hcz21_3
          try clear hcz24_0
          try clear hcz24_1
          try clear hcz24_2
          try clear hcz24_3
          try clear hcz5_0
          try clear hcz5_1
          try clear hcz5_2
          try clear hcz5_3
          try clear hcz7_0
          try clear hcz7_1
          try clear hcz7_2
          try clear hcz7_3
          try clear hcz9_0
          try clear hcz9_1
          try clear hcz9_2
          try clear hcz9_3
          try clear hfz10_0
          try clear hfz10_1
          try clear hfz10_2
          try clear hfz10_3
          try clear hfz18_0
          try clear hfz18_1
          try clear hfz18_2
          try clear hfz18_3
          try clear hfz21_0
          try clear hfz21_1
          try clear hfz21_2
          try clear hfz21_3
          try clear hfz24_0
          try clear hfz24_1
          try clear hfz24_2
          try clear hfz24_3
          try clear hfz5_0
          try clear hfz5_1
          try clear hfz5_2
          try clear hfz5_3
          try clear hfz7_0
          try clear hfz7_1
          try clear hfz7_2
          try clear hfz7_3
          try clear hfz9_0
          try clear hfz9_1
          try clear hfz9_2
          try clear hfz9_3
          try clear p2
          obtain ⟨kq, x42_11, rfl, HA, HJ11, BK755, HB⟩ := hcut
          cases kq with
          | zero => exact absurd HA.out (by simp [sequentref14_Valid.j1])
          | succ kj11 =>
            have H := HA.out
            clear HA
            simp only [sequentref14_Valid.j1] at H
            by_cases c27 : x42_11 = true
            · subst c27
              have H1 : (some false) = some r := by rw [if_pos rfl] at H; exact H
              clear H
              have H := H1
              clear H1
              obtain rfl := Option.some.inj H
              go_wp2
              repeat (go_quiet (fail); try go_wp2)
              go_ret
              exact ⟨by first | rfl | (simp [errW_none, errW_some] <;> rfl) | (simp [*, errW_none, errW_some] <;> rfl), bel_⟩
            · replace c27 := Bool.eq_false_iff.mpr c27
              subst c27
              have H1 : (sequentref14_Valid.l0 kj11 0 l0_0 l0_1 l0_2 l0_3) = some r := by rw [if_neg (show ¬ (false = true) by decide)] at H; exact H
              clear H
              have H := H1
              clear H1
              have H' := Aside0.mk H
              clear H
              go_wp2
              repeat (go_quiet (fail); try go_wp2)
              go_loopg [3] kj11 (fun kq v3 w' => ∃ (x3_3 : Int), v3 = .int .i64 x3_3 ∧ Aside0 (sequentref14_Valid.l0 kq x3_3 l0_0 l0_1 l0_2 l0_3 = some r) ∧ Aside0 (kq ≤ kj11) ∧ Aside0 (w'.heap[gb755]? = some (.cells #[(.slice A0_0 l0_0.length c0_0), (.slice A0_1 l0_1.length c0_1), (.slice A0_2 l0_2.length c0_2), (.slice A0_3 l0_3.length c0_3)] 69 (0, 0))) ∧ Aside0 (Below w.heap.size w w'))
              case atStart => exact ⟨(0), (by first | rfl | (simp; done) | (simp [*]; done)), H', ⟨Nat.le_refl _⟩, ⟨by (with_reducible repeat (first | refine blk_drewN ?_ _ | refine blk_drew ?_ | refine blk_alloc ?_ _)); exact BK755.out⟩, ⟨bel_⟩⟩
              case round =>
                clear H'
                try clear c1
                try clear c2
                try clear p2
                try clear c4
                try clear c4b0
                try clear c4b1
                try clear c6
                try clear c6b0
                try clear c6b1
                try clear c8
                try clear c8b0
                try clear c8b1
                try clear c11
                try clear c15
                try clear c27
                try clear hcz10_0
                try clear hcz10_1
                try clear hcz10_2
                try clear hcz10_3
                try clear hcz18_0
                try clear hcz18_1
                try clear hcz18_2
                try clear hcz18_3
                try clear hcz21_0
                try clear hcz21_1
                try clear hcz21_2
                try clear hcz21_3
                try clear hcz24_0
                try clear hcz24_1
                try clear hcz24_2
                try clear hcz24_3
                try clear hcz5_0
                try clear hcz5_1
                try clear hcz5_2
                try clear hcz5_3
                try clear hcz7_0
                try clear hcz7_1
                try clear hcz7_2
                try clear hcz7_3
                try clear hcz9_0
                try clear hcz9_1
                try clear hcz9_2
                try clear hcz9_3
                try clear hfz10_0
                try clear hfz10_1
                try clear hfz10_2
                try clear hfz10_3
                try clear hfz18_0
                try clear hfz18_1
                try clear hfz18_2
                try clear hfz18_3
                try clear hfz21_0
                try clear hfz21_1
                try clear hfz21_2
                try clear hfz21_3
                try clear hfz24_0
                try clear hfz24_1
                try clear hfz24_2
                try clear hfz24_3
                try clear hfz5_0
                try clear hfz5_1
                try clear hfz5_2
                try clear hfz5_3
                try clear hfz7_0
                try clear hfz7_1
                try clear hfz7_2
                try clear hfz7_3
                try clear hfz9_0
                try clear hfz9_1
                try clear hfz9_2
                try clear hfz9_3
                try clear p2
                obtain ⟨x3_3, rfl, HA, HK3, BK755, HB⟩ := hrel
                cases gk with
                | zero => exact absurd HA.out (by simp [sequentref14_Valid.l0])
                | succ k3 =>
                  have H := HA.out
                  clear HA
                  simp only [sequentref14_Valid.l0] at H
                  by_cases c28 : x3_3 < (l0_0.length : Int)
                  · rw [if_pos c28] at H
                    have c28b0 : decide (x3_3 < (l0_0.length : Int)) = true := decide_eq_true c28
                    clear c28
                    by_cases c29 : 0 ≤ x3_3
                    · rw [if_pos c29] at H
                      have c29b0 : decide (0 ≤ x3_3) = true := decide_eq_true c29
                      clear c29
                      have HC30 := Aside0.mk H
                      clear H
                      have hcz31_0 : wr.cell? ⟨gb755, 0, none⟩ = some (.slice A0_0 l0_0.length c0_0) := (blk_cell BK755.out 0).trans rfl
                      have hcz31_1 : wr.cell? ⟨gb755, 1, none⟩ = some (.slice A0_1 l0_1.length c0_1) := (blk_cell BK755.out 1).trans rfl
                      have hcz31_2 : wr.cell? ⟨gb755, 2, none⟩ = some (.slice A0_2 l0_2.length c0_2) := (blk_cell BK755.out 2).trans rfl
                      have hcz31_3 : wr.cell? ⟨gb755, 3, none⟩ = some (.slice A0_3 l0_3.length c0_3) := (blk_cell BK755.out 3).trans rfl
                      have hfz31_0 := blk_frozen BK755.out 0
                      have hfz31_1 := blk_frozen BK755.out 1
                      have hfz31_2 := blk_frozen BK755.out 2
                      have hfz31_3 := blk_frozen BK755.out 3
                      have p764 : 0 ≤ (x3_3 : Int) := of_decide_eq_true (by first | (with_reducible assumption) | assumption)
                      have q764 : x3_3 < (l0_0.length : Int) := of_decide_eq_true (by first | (with_reducible assumption) | assumption)
                      obtain ⟨ad764, e764, hx764_0, hx764_1, hx764_2⟩ := at_T119 HR0_0.out x3_3 p764 q764
                      cases e764
                      replace hx764_0 := (HB.out.cell (World.block_lt_of_cell? w _ hx764_0)).trans hx764_0
                      replace hx764_1 := (HB.out.cell (World.block_lt_of_cell? w _ hx764_1)).trans hx764_1
                      replace hx764_2 := (HB.out.cell (World.block_lt_of_cell? w _ hx764_2)).trans hx764_2
                      replace p764 := eq_true p764
                      replace q764 := eq_true q764
                      go_upto_region 9 with (first | ((with_reducible refine gate_dst (N := 4) rfl ?_); (try (refine gate_guard (by rfl) ?_; dsimp only)); refine box_event ?hg (N := 4) ?hd (cs := #[.string (⟨#[]⟩ : ByteArray), .int .i64 0, .bool false]) (t := 119) ?hr ?_; (case hd => rfl); (case hg => rfl); (case hr => first | (go_simp; done) | (go_simp; rfl)); intro gb765 hg w32 hbox hb; have n0_ := Aside0.mk (blk_below (g := gb755) (o := .cells #[.slice (some ad764) l0_0.length c0_0, .slice A0_1 l0_1.length c0_1, .slice A0_2 l0_2.length c0_2, .slice A0_3 l0_3.length c0_3] 69 (0, 0)) (by (with_reducible repeat (first | refine blk_drewN ?_ _ | refine blk_drew ?_ | refine blk_alloc ?_ _)); exact BK755.out) hb); have n1_ := Aside0.mk (below_step bel_ hb); have n2_ := Aside0.mk (hbox); have n3_ := Aside0.mk ((by rw [hg]; exact (below_size bel_) : w.heap.size ≤ gb765)); have n4_ := Aside0.mk ((by rw [hg]; exact (below_size bel_) : w.heap.size ≤ gb765)); have n5_ := Aside0.mk ((by rw [hg]; exact Nat.ne_of_lt (blk_lt (g := gb755) (o := .cells #[.slice (some ad764) l0_0.length c0_0, .slice A0_1 l0_1.length c0_1, .slice A0_2 l0_2.length c0_2, .slice A0_3 l0_3.length c0_3] 69 (0, 0)) (by (with_reducible repeat (first | refine blk_drewN ?_ _ | refine blk_drew ?_ | refine blk_alloc ?_ _)); exact BK755.out)) : gb755 ≠ gb765)); have n6_ := Aside0.mk ((by rw [hg]; exact Nat.ne_of_gt (blk_lt (g := gb755) (o := .cells #[.slice (some ad764) l0_0.length c0_0, .slice A0_1 l0_1.length c0_1, .slice A0_2 l0_2.length c0_2, .slice A0_3 l0_3.length c0_3] 69 (0, 0)) (by (with_reducible repeat (first | refine blk_drewN ?_ _ | refine blk_drew ?_ | refine blk_alloc ?_ _)); exact BK755.out)) : gb765 ≠ gb755)); clear BK755; clear HB; have BK755 := n0_; have HB := n1_; have BK765 := n2_; have GW765 := n3_; have GE765 := n4_; have NB755_765 := n5_; have NB765_755 := n6_; clear n0_ n1_ n2_ n3_ n4_ n5_ n6_; clear hb hbox hg; have hnb33 := NB765_755.out; have hnc33 := NB755_765.out; have hcz34_0 : w32.cell? ⟨gb765, 0, none⟩ = some (.string (⟨#[]⟩ : ByteArray)) := (blk_cell BK765.out 0).trans rfl; have hcz34_1 : w32.cell? ⟨gb765, 1, none⟩ = some (.int .i64 0) := (blk_cell BK765.out 1).trans rfl; have hcz34_2 : w32.cell? ⟨gb765, 2, none⟩ = some (.bool false) := (blk_cell BK765.out 2).trans rfl; have hfz34_0 := blk_frozen BK765.out 0; have hfz34_1 := blk_frozen BK765.out 1; have hfz34_2 := blk_frozen BK765.out 2))
                      repeat (go_quiet (first | ((with_reducible refine gate_dst (N := 4) rfl ?_); (try (refine gate_guard (by rfl) ?_; dsimp only)); refine box_event ?hg (N := 4) ?hd (cs := #[.string (⟨#[]⟩ : ByteArray), .int .i64 0, .bool false]) (t := 119) ?hr ?_; (case hd => rfl); (case hg => rfl); (case hr => first | (go_simp; done) | (go_simp; rfl)); intro gb765 hg w32 hbox hb; have n0_ := Aside0.mk (blk_below (g := gb755) (o := .cells #[.slice (some ad764) l0_0.length c0_0, .slice A0_1 l0_1.length c0_1, .slice A0_2 l0_2.length c0_2, .slice A0_3 l0_3.length c0_3] 69 (0, 0)) (by (with_reducible repeat (first | refine blk_drewN ?_ _ | refine blk_drew ?_ | refine blk_alloc ?_ _)); exact BK755.out) hb); have n1_ := Aside0.mk (below_step bel_ hb); have n2_ := Aside0.mk (hbox); have n3_ := Aside0.mk ((by rw [hg]; exact (below_size bel_) : w.heap.size ≤ gb765)); have n4_ := Aside0.mk ((by rw [hg]; exact (below_size bel_) : w.heap.size ≤ gb765)); have n5_ := Aside0.mk ((by rw [hg]; exact Nat.ne_of_lt (blk_lt (g := gb755) (o := .cells #[.slice (some ad764) l0_0.length c0_0, .slice A0_1 l0_1.length c0_1, .slice A0_2 l0_2.length c0_2, .slice A0_3 l0_3.length c0_3] 69 (0, 0)) (by (with_reducible repeat (first | refine blk_drewN ?_ _ | refine blk_drew ?_ | refine blk_alloc ?_ _)); exact BK755.out)) : gb755 ≠ gb765)); have n6_ := Aside0.mk ((by rw [hg]; exact Nat.ne_of_gt (blk_lt (g := gb755) (o := .cells #[.slice (some ad764) l0_0.length c0_0, .slice A0_1 l0_1.length c0_1, .slice A0_2 l0_2.length c0_2, .slice A0_3 l0_3.length c0_3] 69 (0, 0)) (by (with_reducible repeat (first | refine blk_drewN ?_ _ | refine blk_drew ?_ | refine blk_alloc ?_ _)); exact BK755.out)) : gb765 ≠ gb755)); clear BK755; clear HB; have BK755 := n0_; have HB := n1_; have BK765 := n2_; have GW765 := n3_; have GE765 := n4_; have NB755_765 := n5_; have NB765_755 := n6_; clear n0_ n1_ n2_ n3_ n4_ n5_ n6_; clear hb hbox hg; have hnb33 := NB765_755.out; have hnc33 := NB755_765.out; have hcz34_0 : w32.cell? ⟨gb765, 0, none⟩ = some (.string (⟨#[]⟩ : ByteArray)) := (blk_cell BK765.out 0).trans rfl; have hcz34_1 : w32.cell? ⟨gb765, 1, none⟩ = some (.int .i64 0) := (blk_cell BK765.out 1).trans rfl; have hcz34_2 : w32.cell? ⟨gb765, 2, none⟩ = some (.bool false) := (blk_cell BK765.out 2).trans rfl; have hfz34_0 := blk_frozen BK765.out 0; have hfz34_1 := blk_frozen BK765.out 1; have hfz34_2 := blk_frozen BK765.out 2)); go_upto_region 9 with (first | ((with_reducible refine gate_dst (N := 4) rfl ?_); (try (refine gate_guard (by rfl) ?_; dsimp only)); refine box_event ?hg (N := 4) ?hd (cs := #[.string (⟨#[]⟩ : ByteArray), .int .i64 0, .bool false]) (t := 119) ?hr ?_; (case hd => rfl); (case hg => rfl); (case hr => first | (go_simp; done) | (go_simp; rfl)); intro gb765 hg w32 hbox hb; have n0_ := Aside0.mk (blk_below (g := gb755) (o := .cells #[.slice (some ad764) l0_0.length c0_0, .slice A0_1 l0_1.length c0_1, .slice A0_2 l0_2.length c0_2, .slice A0_3 l0_3.length c0_3] 69 (0, 0)) (by (with_reducible repeat (first | refine blk_drewN ?_ _ | refine blk_drew ?_ | refine blk_alloc ?_ _)); exact BK755.out) hb); have n1_ := Aside0.mk (below_step bel_ hb); have n2_ := Aside0.mk (hbox); have n3_ := Aside0.mk ((by rw [hg]; exact (below_size bel_) : w.heap.size ≤ gb765)); have n4_ := Aside0.mk ((by rw [hg]; exact (below_size bel_) : w.heap.size ≤ gb765)); have n5_ := Aside0.mk ((by rw [hg]; exact Nat.ne_of_lt (blk_lt (g := gb755) (o := .cells #[.slice (some ad764) l0_0.length c0_0, .slice A0_1 l0_1.length c0_1, .slice A0_2 l0_2.length c0_2, .slice A0_3 l0_3.length c0_3] 69 (0, 0)) (by (with_reducible repeat (first | refine blk_drewN ?_ _ | refine blk_drew ?_ | refine blk_alloc ?_ _)); exact BK755.out)) : gb755 ≠ gb765)); have n6_ := Aside0.mk ((by rw [hg]; exact Nat.ne_of_gt (blk_lt (g := gb755) (o := .cells #[.slice (some ad764) l0_0.length c0_0, .slice A0_1 l0_1.length c0_1, .slice A0_2 l0_2.length c0_2, .slice A0_3 l0_3.length c0_3] 69 (0, 0)) (by (with_reducible repeat (first | refine blk_drewN ?_ _ | refine blk_drew ?_ | refine blk_alloc ?_ _)); exact BK755.out)) : gb765 ≠ gb755)); clear BK755; clear HB; have BK755 := n0_; have HB := n1_; have BK765 := n2_; have GW765 := n3_; have GE765 := n4_; have NB755_765 := n5_; have NB765_755 := n6_; clear n0_ n1_ n2_ n3_ n4_ n5_ n6_; clear hb hbox hg; have hnb33 := NB765_755.out; have hnc33 := NB755_765.out; have hcz34_0 : w32.cell? ⟨gb765, 0, none⟩ = some (.string (⟨#[]⟩ : ByteArray)) := (blk_cell BK765.out 0).trans rfl; have hcz34_1 : w32.cell? ⟨gb765, 1, none⟩ = some (.int .i64 0) := (blk_cell BK765.out 1).trans rfl; have hcz34_2 : w32.cell? ⟨gb765, 2, none⟩ = some (.bool false) := (blk_cell BK765.out 2).trans rfl; have hfz34_0 := blk_frozen BK765.out 0; have hfz34_1 := blk_frozen BK765.out 1; have hfz34_2 := blk_frozen BK765.out 2)))
                      (try simp only [Act.put, List.setIfInBounds_toArray, List.set_cons_zero, List.set_cons_succ])
                      go_cut [62] (fun v62 wc => ∃ (kq : Nat) (x62_29 : Bool), v62 = .bool x62_29 ∧ Aside0 (sequentref14_Valid.j3 kq x3_3 x62_29 l0_0 l0_1 l0_2 l0_3 ((rd_T119 l0_0 x3_3).f0) ((rd_T119 l0_0 x3_3).f1) ((rd_T119 l0_0 x3_3).f2) = some r) ∧ Aside0 (kq ≤ k3) ∧ Aside0 (wc.heap[gb755]? = some (.cells #[(.slice (some ad764) l0_0.length c0_0), (.slice A0_1 l0_1.length c0_1), (.slice A0_2 l0_2.length c0_2), (.slice A0_3 l0_3.length c0_3)] 69 (0, 0))) ∧ Aside0 (wc.heap[gb765]? = some (.cells #[.string ((rd_T119 l0_0 x3_3).f0), .int .i64 ((rd_T119 l0_0 x3_3).f1), .bool ((rd_T119 l0_0 x3_3).f2)] 119 (0, 0))) ∧ Aside0 (Below w.heap.size w wc))
                      case first =>
                        have H := HC30.out
                        clear HC30
                        by_cases c35 : ((rd_T119 l0_0 x3_3).f1) < 1
                        · rw [if_pos c35] at H
                          have c35b0 : decide (((rd_T119 l0_0 x3_3).f1) < 1) = true := decide_eq_true c35
                          clear c35
                          (first | rw [c35b0] | (simp only [i64_w, i32_w]; rw [c35b0]) | skip)
                          have H' := Aside0.mk H
                          clear H
                          have hnb36 := NB765_755.out
                          have hnc36 := NB755_765.out
                          have hcz37_0 : w32.cell? ⟨gb765, 0, none⟩ = some (.string (⟨#[]⟩ : ByteArray)) := (blk_cell BK765.out 0).trans rfl
                          have hcz37_1 : w32.cell? ⟨gb765, 1, none⟩ = some (.int .i64 0) := (blk_cell BK765.out 1).trans rfl
                          have hcz37_2 : w32.cell? ⟨gb765, 2, none⟩ = some (.bool false) := (blk_cell BK765.out 2).trans rfl
                          have hfz37_0 := blk_frozen BK765.out 0
                          have hfz37_1 := blk_frozen BK765.out 1
                          have hfz37_2 := blk_frozen BK765.out 2
                          go_wp2
                          repeat (go_quiet (fail); try go_wp2)
                          go_meet
                          case rel => exact ⟨_, (true), (by first | rfl | (simp; done) | (simp [*]; done)), H', ⟨by have := HJ1.out; have := HJ11.out; have := HK3.out; first | omega | exact Nat.le_refl _⟩, ⟨by (with_reducible repeat (first | refine blk_drewN ?_ _ | refine blk_drew ?_ | refine blk_alloc ?_ _)); refine blk_far ?_ NB755_765.out _; (with_reducible repeat (first | refine blk_drewN ?_ _ | refine blk_drew ?_ | refine blk_alloc ?_ _)); refine blk_far ?_ NB755_765.out _; (with_reducible repeat (first | refine blk_drewN ?_ _ | refine blk_drew ?_ | refine blk_alloc ?_ _)); refine blk_far ?_ NB755_765.out _; (with_reducible repeat (first | refine blk_drewN ?_ _ | refine blk_drew ?_ | refine blk_alloc ?_ _)); exact BK755.out⟩, ⟨by (with_reducible repeat (first | refine blk_drewN ?_ _ | refine blk_drew ?_ | refine blk_alloc ?_ _)); refine blk_put (cs := #[.string ((rd_T119 l0_0 x3_3).f0), .int .i64 ((rd_T119 l0_0 x3_3).f1), .bool false]) ?_ 2 _ rfl; (with_reducible repeat (first | refine blk_drewN ?_ _ | refine blk_drew ?_ | refine blk_alloc ?_ _)); refine blk_put (cs := #[.string ((rd_T119 l0_0 x3_3).f0), .int .i64 0, .bool false]) ?_ 1 _ rfl; (with_reducible repeat (first | refine blk_drewN ?_ _ | refine blk_drew ?_ | refine blk_alloc ?_ _)); refine blk_put (cs := #[.string (⟨#[]⟩ : ByteArray), .int .i64 0, .bool false]) ?_ 0 _ rfl; (with_reducible repeat (first | refine blk_drewN ?_ _ | refine blk_drew ?_ | refine blk_alloc ?_ _)); exact BK765.out⟩, ⟨bel_⟩⟩
                        · rw [if_neg c35] at H
                          have c35b0 : decide (((rd_T119 l0_0 x3_3).f1) < 1) = false := decide_eq_false c35
                          clear c35
                          (first | rw [c35b0] | (simp only [i64_w, i32_w]; rw [c35b0]) | skip)
                          have H' := Aside0.mk H
                          clear H
                          have hnb38 := NB765_755.out
                          have hnc38 := NB755_765.out
                          have hcz39_0 : w32.cell? ⟨gb765, 0, none⟩ = some (.string (⟨#[]⟩ : ByteArray)) := (blk_cell BK765.out 0).trans rfl
                          have hcz39_1 : w32.cell? ⟨gb765, 1, none⟩ = some (.int .i64 0) := (blk_cell BK765.out 1).trans rfl
                          have hcz39_2 : w32.cell? ⟨gb765, 2, none⟩ = some (.bool false) := (blk_cell BK765.out 2).trans rfl
                          have hfz39_0 := blk_frozen BK765.out 0
                          have hfz39_1 := blk_frozen BK765.out 1
                          have hfz39_2 := blk_frozen BK765.out 2
                          go_wp2
                          repeat (go_quiet (fail); try go_wp2)
                          go_meet
                          case rel => exact ⟨_, (decide (((rd_T119 l0_0 x3_3).f1) > 99)), (by first | rfl | (simp; done) | (simp [*]; done)), H', ⟨by have := HJ1.out; have := HJ11.out; have := HK3.out; first | omega | exact Nat.le_refl _⟩, ⟨by (with_reducible repeat (first | refine blk_drewN ?_ _ | refine blk_drew ?_ | refine blk_alloc ?_ _)); refine blk_far ?_ NB755_765.out _; (with_reducible repeat (first | refine blk_drewN ?_ _ | refine blk_drew ?_ | refine blk_alloc ?_ _)); refine blk_far ?_ NB755_765.out _; (with_reducible repeat (first | refine blk_drewN ?_ _ | refine blk_drew ?_ | refine blk_alloc ?_ _)); refine blk_far ?_ NB755_765.out _; (with_reducible repeat (first | refine blk_drewN ?_ _ | refine blk_drew ?_ | refine blk_alloc ?_ _)); exact BK755.out⟩, ⟨by (with_reducible repeat (first | refine blk_drewN ?_ _ | refine blk_drew ?_ | refine blk_alloc ?_ _)); refine blk_put (cs := #[.string ((rd_T119 l0_0 x3_3).f0), .int .i64 ((rd_T119 l0_0 x3_3).f1), .bool false]) ?_ 2 _ rfl; (with_reducible repeat (first | refine blk_drewN ?_ _ | refine blk_drew ?_ | refine blk_alloc ?_ _)); refine blk_put (cs := #[.string ((rd_T119 l0_0 x3_3).f0), .int .i64 0, .bool false]) ?_ 1 _ rfl; (with_reducible repeat (first | refine blk_drewN ?_ _ | refine blk_drew ?_ | refine blk_alloc ?_ _)); refine blk_put (cs := #[.string (⟨#[]⟩ : ByteArray), .int .i64 0, .bool false]) ?_ 0 _ rfl; (with_reducible repeat (first | refine blk_drewN ?_ _ | refine blk_drew ?_ | refine blk_alloc ?_ _)); exact BK765.out⟩, ⟨bel_⟩⟩
                      case rest =>
                        clear HC30
                        try clear c1
                        try clear c2
                        try clear p2
                        try clear c3
                        try clear c4
                        try clear c4b0
                        try clear c4b1
                        try clear c6
                        try clear c6b0
                        try clear c6b1
                        try clear p7
                        try clear q7
                        try clear hx7
                        try clear c8
                        try clear c8b0
                        try clear c8b1
                        try clear c11
                        try clear c15
                        try clear c27
                        try clear c28
                        try clear c28b0
                        try clear c29
                        try clear c29b0
                        try clear c33
                        try clear c35
                        try clear c35b0
                        try clear c36
                        try clear c38
                        try clear hcz10_0
                        try clear hcz10_1
                        try clear hcz10_2
                        try clear hcz10_3
                        try clear hcz18_0
                        try clear hcz18_1
                        try clear hcz18_2
                        try clear hcz18_3
                        try clear hcz21_0
                        try clear hcz21_1
                        try clear hcz21_2
                        try clear hcz21_3
                        try clear hcz24_0
                        try clear hcz24_1
                        try clear hcz24_2
                        try clear hcz24_3
                        try clear hcz31_0
                        try clear hcz31_1
                        try clear hcz31_2
                        try clear hcz31_3
                        try clear hcz34_0
                        try clear hcz34_1
                        try clear hcz34_2
                        try clear hcz37_0
                        try clear hcz37_1
                        try clear hcz37_2
                        try clear hcz39_0
                        try clear hcz39_1
                        try clear hcz39_2
                        try clear hcz5_0
                        try clear hcz5_1
                        try clear hcz5_2
                        try clear hcz5_3
                        try clear hcz7_0
                        try clear hcz7_1
                        try clear hcz7_2
                        try clear hcz7_3
                        try clear hcz9_0
                        try clear hcz9_1
                        try clear hcz9_2
                        try clear hcz9_3
                        try clear hfz10_0
                        try clear hfz10_1
                        try clear hfz10_2
                        try clear hfz10_3
                        try clear hfz18_0
                        try clear hfz18_1
                        try clear hfz18_2
                        try clear hfz18_3
                        try clear hfz21_0
                        try clear hfz21_1
                        try clear hfz21_2
                        try clear hfz21_3
                        try clear hfz24_0
                        try clear hfz24_1
                        try clear hfz24_2
                        try clear hfz24_3
                        try clear hfz31_0
                        try clear hfz31_1
                        try clear hfz31_2
                        try clear hfz31_3
                        try clear hfz34_0
                        try clear hfz34_1
                        try clear hfz34_2
                        try clear hfz37_0
                        try clear hfz37_1
                        try clear hfz37_2
                        try clear hfz39_0
                        try clear hfz39_1
                        try clear hfz39_2
                        try clear hfz5_0
                        try clear hfz5_1
                        try clear hfz5_2
                        try clear hfz5_3
                        try clear hfz7_0
                        try clear hfz7_1
                        try clear hfz7_2
                        try clear hfz7_3
                        try clear hfz9_0
                        try clear hfz9_1
                        try clear hfz9_2
                        try clear hfz9_3
                        try clear hx764_0
                        try clear hx764_1
                        try clear hx764_2
                        try clear p2
                        try clear p764
                        try clear q764
                        obtain ⟨kq, x62_29, rfl, HA, HJ29, BK755, BK765, HB⟩ := hcut
                        cases kq with
                        | zero => exact absurd HA.out (by simp [sequentref14_Valid.j3])
                        | succ kj29 =>
                          have H := HA.out
                          clear HA
                          simp only [sequentref14_Valid.j3] at H
                          by_cases c40 : x62_29 = true
                          · subst c40
                            have H1 : (some false) = some r := by rw [if_pos rfl] at H; exact H
                            clear H
                            have H := H1
                            clear H1
                            obtain rfl := Option.some.inj H
                            go_wp2
                            repeat (go_quiet (fail); try go_wp2)
                            go_ret
                            exact ⟨by first | rfl | (simp [errW_none, errW_some] <;> rfl) | (simp [*, errW_none, errW_some] <;> rfl), bel_⟩
                          · replace c40 := Bool.eq_false_iff.mpr c40
                            subst c40
                            have H1 : (sequentref14_Valid.l1 kj29 x3_3 0 l0_0 l0_1 l0_2 l0_3 ((rd_T119 l0_0 x3_3).f0) ((rd_T119 l0_0 x3_3).f1) ((rd_T119 l0_0 x3_3).f2)) = some r := by rw [if_neg (show ¬ (false = true) by decide)] at H; exact H
                            clear H
                            have H := H1
                            clear H1
                            have H' := Aside0.mk H
                            clear H
                            go_wp2
                            repeat (go_quiet (fail); try go_wp2)
                            go_loopg [5] kj29 (fun kq v5 w' => ∃ (x5_5 : Int), v5 = .int .i64 x5_5 ∧ Aside0 (sequentref14_Valid.l1 kq x3_3 x5_5 l0_0 l0_1 l0_2 l0_3 ((rd_T119 l0_0 x3_3).f0) ((rd_T119 l0_0 x3_3).f1) ((rd_T119 l0_0 x3_3).f2) = some r) ∧ Aside0 (kq ≤ kj29) ∧ Aside0 (w'.heap[gb755]? = some (.cells #[(.slice (some ad764) l0_0.length c0_0), (.slice A0_1 l0_1.length c0_1), (.slice A0_2 l0_2.length c0_2), (.slice A0_3 l0_3.length c0_3)] 69 (0, 0))) ∧ Aside0 (w'.heap[gb765]? = some (.cells #[.string ((rd_T119 l0_0 x3_3).f0), .int .i64 ((rd_T119 l0_0 x3_3).f1), .bool ((rd_T119 l0_0 x3_3).f2)] 119 (0, 0))) ∧ Aside0 (Below w.heap.size w w'))
                            case atStart => exact ⟨(0), (by first | rfl | (simp; done) | (simp [*]; done)), H', ⟨Nat.le_refl _⟩, ⟨by (with_reducible repeat (first | refine blk_drewN ?_ _ | refine blk_drew ?_ | refine blk_alloc ?_ _)); exact BK755.out⟩, ⟨by (with_reducible repeat (first | refine blk_drewN ?_ _ | refine blk_drew ?_ | refine blk_alloc ?_ _)); exact BK765.out⟩, ⟨bel_⟩⟩
                            case round =>
                              clear H'
                              try clear c1
                              try clear c2
                              try clear p2
                              try clear c3
                              try clear c4
                              try clear c4b0
                              try clear c4b1
                              try clear c6
                              try clear c6b0
                              try clear c6b1
                              try clear p7
                              try clear q7
                              try clear hx7
                              try clear c8
                              try clear c8b0
                              try clear c8b1
                              try clear c11
                              try clear c15
                              try clear c27
                              try clear c28
                              try clear c28b0
                              try clear c29
                              try clear c29b0
                              try clear c33
                              try clear c35
                              try clear c35b0
                              try clear c36
                              try clear c38
                              try clear c40
                              try clear hcz10_0
                              try clear hcz10_1
                              try clear hcz10_2
                              try clear hcz10_3
                              try clear hcz18_0
                              try clear hcz18_1
                              try clear hcz18_2
                              try clear hcz18_3
                              try clear hcz21_0
                              try clear hcz21_1
                              try clear hcz21_2
                              try clear hcz21_3
                              try clear hcz24_0
                              try clear hcz24_1
                              try clear hcz24_2
                              try clear hcz24_3
                              try clear hcz31_0
                              try clear hcz31_1
                              try clear hcz31_2
                              try clear hcz31_3
                              try clear hcz34_0
                              try clear hcz34_1
                              try clear hcz34_2
                              try clear hcz37_0
                              try clear hcz37_1
                              try clear hcz37_2
                              try clear hcz39_0
                              try clear hcz39_1
                              try clear hcz39_2
                              try clear hcz5_0
                              try clear hcz5_1
                              try clear hcz5_2
                              try clear hcz5_3
                              try clear hcz7_0
                              try clear hcz7_1
                              try clear hcz7_2
                              try clear hcz7_3
                              try clear hcz9_0
                              try clear hcz9_1
                              try clear hcz9_2
                              try clear hcz9_3
                              try clear hfz10_0
                              try clear hfz10_1
                              try clear hfz10_2
                              try clear hfz10_3
                              try clear hfz18_0
                              try clear hfz18_1
                              try clear hfz18_2
                              try clear hfz18_3
                              try clear hfz21_0
                              try clear hfz21_1
                              try clear hfz21_2
                              try clear hfz21_3
                              try clear hfz24_0
                              try clear hfz24_1
                              try clear hfz24_2
                              try clear hfz24_3
                              try clear hfz31_0
                              try clear hfz31_1
                              try clear hfz31_2
                              try clear hfz31_3
                              try clear hfz34_0
                              try clear hfz34_1
                              try clear hfz34_2
                              try clear hfz37_0
                              try clear hfz37_1
                              try clear hfz37_2
                              try clear hfz39_0
                              try clear hfz39_1
                              try clear hfz39_2
                              try clear hfz5_0
                              try clear hfz5_1
                              try clear hfz5_2
                              try clear hfz5_3
                              try clear hfz7_0
                              try clear hfz7_1
                              try clear hfz7_2
                              try clear hfz7_3
                              try clear hfz9_0
                              try clear hfz9_1
                              try clear hfz9_2
                              try clear hfz9_3
                              try clear hx764_0
                              try clear hx764_1
                              try clear hx764_2
                              try clear p2
                              try clear p7
                              try clear p764
                              try clear q7
                              try clear q764
                              obtain ⟨x5_5, rfl, HA, HK5, BK755, BK765, HB⟩ := hrel
                              cases gk with
                              | zero => exact absurd HA.out (by simp [sequentref14_Valid.l1])
                              | succ k5 =>
                                have H := HA.out
                                clear HA
                                simp only [sequentref14_Valid.l1] at H
                                by_cases c41 : x5_5 < x3_3
                                · rw [if_pos c41] at H
                                  have c41b0 : decide (x5_5 < x3_3) = true := decide_eq_true c41
                                  clear c41
                                  by_cases c42 : 0 ≤ x5_5
                                  · rw [if_pos c42] at H
                                    have c42b0 : decide (0 ≤ x5_5) = true := decide_eq_true c42
                                    clear c42
                                    by_cases c43 : x5_5 < (l0_0.length : Int)
                                    · rw [if_pos c43] at H
                                      have c43b0 : decide (x5_5 < (l0_0.length : Int)) = true := decide_eq_true c43
                                      clear c43
                                      by_cases c44 : ((rd_T119 l0_0 x5_5).f1) = ((rd_T119 l0_0 x3_3).f1)
                                      · rw [if_pos c44] at H
                                        have c44b0 : (((rd_T119 l0_0 x5_5).f1) == ((rd_T119 l0_0 x3_3).f1)) = true := beq_iff_eq.mpr c44
                                        have c44b1 : (((rd_T119 l0_0 x5_5).f1) != ((rd_T119 l0_0 x3_3).f1)) = false := bne_eq_false_iff_eq.mpr c44
                                        clear c44
                                        by_cases c45 : (((rd_T119 l0_0 x5_5).f2) != ((rd_T119 l0_0 x3_3).f2)) = true
                                        · rw [if_pos c45] at H
                                          have c45b0 : (((rd_T119 l0_0 x5_5).f2) != ((rd_T119 l0_0 x3_3).f2)) = true := c45
                                          (try (have c45b1 : decide (((rd_T119 l0_0 x5_5).f2) = ((rd_T119 l0_0 x3_3).f2)) = false := by simpa using c45))
                                          (try (have c45b2 : (((rd_T119 l0_0 x5_5).f2) == ((rd_T119 l0_0 x3_3).f2)) = false := by simpa using c45))
                                          (try (have c45b3 : ¬ (((rd_T119 l0_0 x5_5).f2) = ((rd_T119 l0_0 x3_3).f2)) := by simpa using c45))
                                          clear c45
                                          obtain rfl := Option.some.inj H
                                          have hnb46 := NB755_765.out
                                          have hnc46 := NB765_755.out
                                          have hcz47_0 : wr.cell? ⟨gb755, 0, none⟩ = some (.slice (some ad764) l0_0.length c0_0) := (blk_cell BK755.out 0).trans rfl
                                          have hcz47_1 : wr.cell? ⟨gb755, 1, none⟩ = some (.slice A0_1 l0_1.length c0_1) := (blk_cell BK755.out 1).trans rfl
                                          have hcz47_2 : wr.cell? ⟨gb755, 2, none⟩ = some (.slice A0_2 l0_2.length c0_2) := (blk_cell BK755.out 2).trans rfl
                                          have hcz47_3 : wr.cell? ⟨gb755, 3, none⟩ = some (.slice A0_3 l0_3.length c0_3) := (blk_cell BK755.out 3).trans rfl
                                          have hfz47_0 := blk_frozen BK755.out 0
                                          have hfz47_1 := blk_frozen BK755.out 1
                                          have hfz47_2 := blk_frozen BK755.out 2
                                          have hfz47_3 := blk_frozen BK755.out 3
                                          have p766 : 0 ≤ (x5_5 : Int) := of_decide_eq_true (by first | (with_reducible assumption) | assumption)
                                          have q766 : x5_5 < (l0_0.length : Int) := of_decide_eq_true (by first | (with_reducible assumption) | assumption)
                                          obtain ⟨ad766, e766, hx766_0, hx766_1, hx766_2⟩ := at_T119 HR0_0.out x5_5 p766 q766
                                          obtain rfl : ad764 = ad766 := (by injection e766)
                                          replace hx766_0 := (HB.out.cell (World.block_lt_of_cell? w _ hx766_0)).trans hx766_0
                                          replace hx766_1 := (HB.out.cell (World.block_lt_of_cell? w _ hx766_1)).trans hx766_1
                                          replace hx766_2 := (HB.out.cell (World.block_lt_of_cell? w _ hx766_2)).trans hx766_2
                                          replace p766 := eq_true p766
                                          replace q766 := eq_true q766
                                          have hcz48_0 : wr.cell? ⟨gb765, 0, none⟩ = some (.string ((rd_T119 l0_0 x3_3).f0)) := (blk_cell BK765.out 0).trans rfl
                                          have hcz48_1 : wr.cell? ⟨gb765, 1, none⟩ = some (.int .i64 ((rd_T119 l0_0 x3_3).f1)) := (blk_cell BK765.out 1).trans rfl
                                          have hcz48_2 : wr.cell? ⟨gb765, 2, none⟩ = some (.bool ((rd_T119 l0_0 x3_3).f2)) := (blk_cell BK765.out 2).trans rfl
                                          have hfz48_0 := blk_frozen BK765.out 0
                                          have hfz48_1 := blk_frozen BK765.out 1
                                          have hfz48_2 := blk_frozen BK765.out 2
                                          have p767 : 0 ≤ (x5_5 : Int) := of_decide_eq_true (by first | (with_reducible assumption) | assumption)
                                          have q767 : x5_5 < (l0_0.length : Int) := of_decide_eq_true (by first | (with_reducible assumption) | assumption)
                                          obtain ⟨ad767, e767, hx767_0, hx767_1, hx767_2⟩ := at_T119 HR0_0.out x5_5 p767 q767
                                          obtain rfl : ad764 = ad767 := (by injection e767)
                                          replace hx767_0 := (HB.out.cell (World.block_lt_of_cell? w _ hx767_0)).trans hx767_0
                                          replace hx767_1 := (HB.out.cell (World.block_lt_of_cell? w _ hx767_1)).trans hx767_1
                                          replace hx767_2 := (HB.out.cell (World.block_lt_of_cell? w _ hx767_2)).trans hx767_2
                                          replace p767 := eq_true p767
                                          replace q767 := eq_true q767
                                          go_wp2
                                          repeat (go_quiet (fail); try go_wp2)
                                          go_ret
                                          exact ⟨by first | rfl | (simp [errW_none, errW_some] <;> rfl) | (simp [*, errW_none, errW_some] <;> rfl), bel_⟩
                                        · rw [if_neg c45] at H
                                          have c45b0 : (((rd_T119 l0_0 x5_5).f2) != ((rd_T119 l0_0 x3_3).f2)) = false := by simpa using c45
                                          (try (have c45b1 : decide (((rd_T119 l0_0 x5_5).f2) = ((rd_T119 l0_0 x3_3).f2)) = true := by simpa using c45))
                                          (try (have c45b2 : (((rd_T119 l0_0 x5_5).f2) == ((rd_T119 l0_0 x3_3).f2)) = true := by simpa using c45))
                                          clear c45
                                          have H' := Aside0.mk H
                                          clear H
                                          have hnb49 := NB755_765.out
                                          have hnc49 := NB765_755.out
                                          have hcz50_0 : wr.cell? ⟨gb755, 0, none⟩ = some (.slice (some ad764) l0_0.length c0_0) := (blk_cell BK755.out 0).trans rfl
                                          have hcz50_1 : wr.cell? ⟨gb755, 1, none⟩ = some (.slice A0_1 l0_1.length c0_1) := (blk_cell BK755.out 1).trans rfl
                                          have hcz50_2 : wr.cell? ⟨gb755, 2, none⟩ = some (.slice A0_2 l0_2.length c0_2) := (blk_cell BK755.out 2).trans rfl
                                          have hcz50_3 : wr.cell? ⟨gb755, 3, none⟩ = some (.slice A0_3 l0_3.length c0_3) := (blk_cell BK755.out 3).trans rfl
                                          have hfz50_0 := blk_frozen BK755.out 0
                                          have hfz50_1 := blk_frozen BK755.out 1
                                          have hfz50_2 := blk_frozen BK755.out 2
                                          have hfz50_3 := blk_frozen BK755.out 3
                                          have p766 : 0 ≤ (x5_5 : Int) := of_decide_eq_true (by first | (with_reducible assumption) | assumption)
                                          have q766 : x5_5 < (l0_0.length : Int) := of_decide_eq_true (by first | (with_reducible assumption) | assumption)
                                          obtain ⟨ad766, e766, hx766_0, hx766_1, hx766_2⟩ := at_T119 HR0_0.out x5_5 p766 q766
                                          obtain rfl : ad764 = ad766 := (by injection e766)
                                          replace hx766_0 := (HB.out.cell (World.block_lt_of_cell? w _ hx766_0)).trans hx766_0
                                          replace hx766_1 := (HB.out.cell (World.block_lt_of_cell? w _ hx766_1)).trans hx766_1
                                          replace hx766_2 := (HB.out.cell (World.block_lt_of_cell? w _ hx766_2)).trans hx766_2
                                          replace p766 := eq_true p766
                                          replace q766 := eq_true q766
                                          have hcz51_0 : wr.cell? ⟨gb765, 0, none⟩ = some (.string ((rd_T119 l0_0 x3_3).f0)) := (blk_cell BK765.out 0).trans rfl
                                          have hcz51_1 : wr.cell? ⟨gb765, 1, none⟩ = some (.int .i64 ((rd_T119 l0_0 x3_3).f1)) := (blk_cell BK765.out 1).trans rfl
                                          have hcz51_2 : wr.cell? ⟨gb765, 2, none⟩ = some (.bool ((rd_T119 l0_0 x3_3).f2)) := (blk_cell BK765.out 2).trans rfl
                                          have hfz51_0 := blk_frozen BK765.out 0
                                          have hfz51_1 := blk_frozen BK765.out 1
                                          have hfz51_2 := blk_frozen BK765.out 2
                                          have p767 : 0 ≤ (x5_5 : Int) := of_decide_eq_true (by first | (with_reducible assumption) | assumption)
                                          have q767 : x5_5 < (l0_0.length : Int) := of_decide_eq_true (by first | (with_reducible assumption) | assumption)
                                          obtain ⟨ad767, e767, hx767_0, hx767_1, hx767_2⟩ := at_T119 HR0_0.out x5_5 p767 q767
                                          obtain rfl : ad764 = ad767 := (by injection e767)
                                          replace hx767_0 := (HB.out.cell (World.block_lt_of_cell? w _ hx767_0)).trans hx767_0
                                          replace hx767_1 := (HB.out.cell (World.block_lt_of_cell? w _ hx767_1)).trans hx767_1
                                          replace hx767_2 := (HB.out.cell (World.block_lt_of_cell? w _ hx767_2)).trans hx767_2
                                          replace p767 := eq_true p767
                                          replace q767 := eq_true q767
                                          go_wp2
                                          repeat (go_quiet (fail); try go_wp2)
                                          go_roundg k5
                                          case measure => have := HJ1.out; have := HJ11.out; have := HK3.out; have := HJ29.out; have := HK5.out; omega
                                          case rel => exact ⟨(wrap64 (x5_5 + 1)), (by first | rfl | (simp; done) | (simp [*]; done)), H', ⟨by have := HJ1.out; have := HJ11.out; have := HK3.out; have := HJ29.out; have := HK5.out; omega⟩, ⟨by (with_reducible repeat (first | refine blk_drewN ?_ _ | refine blk_drew ?_ | refine blk_alloc ?_ _)); exact BK755.out⟩, ⟨by (with_reducible repeat (first | refine blk_drewN ?_ _ | refine blk_drew ?_ | refine blk_alloc ?_ _)); exact BK765.out⟩, ⟨bel_⟩⟩
                                      · rw [if_neg c44] at H
                                        have c44b0 : (((rd_T119 l0_0 x5_5).f1) == ((rd_T119 l0_0 x3_3).f1)) = false := beq_eq_false_iff_ne.mpr c44
                                        have c44b1 : (((rd_T119 l0_0 x5_5).f1) != ((rd_T119 l0_0 x3_3).f1)) = true := bne_iff_ne.mpr c44
                                        have H' := Aside0.mk H
                                        clear H
                                        have hnb52 := NB755_765.out
                                        have hnc52 := NB765_755.out
                                        have hcz53_0 : wr.cell? ⟨gb755, 0, none⟩ = some (.slice (some ad764) l0_0.length c0_0) := (blk_cell BK755.out 0).trans rfl
                                        have hcz53_1 : wr.cell? ⟨gb755, 1, none⟩ = some (.slice A0_1 l0_1.length c0_1) := (blk_cell BK755.out 1).trans rfl
                                        have hcz53_2 : wr.cell? ⟨gb755, 2, none⟩ = some (.slice A0_2 l0_2.length c0_2) := (blk_cell BK755.out 2).trans rfl
                                        have hcz53_3 : wr.cell? ⟨gb755, 3, none⟩ = some (.slice A0_3 l0_3.length c0_3) := (blk_cell BK755.out 3).trans rfl
                                        have hfz53_0 := blk_frozen BK755.out 0
                                        have hfz53_1 := blk_frozen BK755.out 1
                                        have hfz53_2 := blk_frozen BK755.out 2
                                        have hfz53_3 := blk_frozen BK755.out 3
                                        have p766 : 0 ≤ (x5_5 : Int) := of_decide_eq_true (by first | (with_reducible assumption) | assumption)
                                        have q766 : x5_5 < (l0_0.length : Int) := of_decide_eq_true (by first | (with_reducible assumption) | assumption)
                                        obtain ⟨ad766, e766, hx766_0, hx766_1, hx766_2⟩ := at_T119 HR0_0.out x5_5 p766 q766
                                        obtain rfl : ad764 = ad766 := (by injection e766)
                                        replace hx766_0 := (HB.out.cell (World.block_lt_of_cell? w _ hx766_0)).trans hx766_0
                                        replace hx766_1 := (HB.out.cell (World.block_lt_of_cell? w _ hx766_1)).trans hx766_1
                                        replace hx766_2 := (HB.out.cell (World.block_lt_of_cell? w _ hx766_2)).trans hx766_2
                                        replace p766 := eq_true p766
                                        replace q766 := eq_true q766
                                        have hcz54_0 : wr.cell? ⟨gb765, 0, none⟩ = some (.string ((rd_T119 l0_0 x3_3).f0)) := (blk_cell BK765.out 0).trans rfl
                                        have hcz54_1 : wr.cell? ⟨gb765, 1, none⟩ = some (.int .i64 ((rd_T119 l0_0 x3_3).f1)) := (blk_cell BK765.out 1).trans rfl
                                        have hcz54_2 : wr.cell? ⟨gb765, 2, none⟩ = some (.bool ((rd_T119 l0_0 x3_3).f2)) := (blk_cell BK765.out 2).trans rfl
                                        have hfz54_0 := blk_frozen BK765.out 0
                                        have hfz54_1 := blk_frozen BK765.out 1
                                        have hfz54_2 := blk_frozen BK765.out 2
                                        go_wp2
                                        repeat (go_quiet (fail); try go_wp2)
                                        go_roundg k5
                                        case measure => have := HJ1.out; have := HJ11.out; have := HK3.out; have := HJ29.out; have := HK5.out; omega
                                        case rel => exact ⟨(wrap64 (x5_5 + 1)), (by first | rfl | (simp; done) | (simp [*]; done)), H', ⟨by have := HJ1.out; have := HJ11.out; have := HK3.out; have := HJ29.out; have := HK5.out; omega⟩, ⟨by (with_reducible repeat (first | refine blk_drewN ?_ _ | refine blk_drew ?_ | refine blk_alloc ?_ _)); exact BK755.out⟩, ⟨by (with_reducible repeat (first | refine blk_drewN ?_ _ | refine blk_drew ?_ | refine blk_alloc ?_ _)); exact BK765.out⟩, ⟨bel_⟩⟩
                                    · rw [if_neg c43] at H
                                      exact absurd H (by simp)
                                  · rw [if_neg c42] at H
                                    exact absurd H (by simp)
                                · rw [if_neg c41] at H
                                  have c41b0 : decide (x5_5 < x3_3) = false := decide_eq_false c41
                                  clear c41
                                  have H' := Aside0.mk H
                                  clear H
                                  go_wp2
                                  repeat (go_quiet (fail); try go_wp2)
                                  go_roundg k5
                                  case measure => have := HJ1.out; have := HJ11.out; have := HK3.out; have := HJ29.out; have := HK5.out; omega
                                  case rel => exact ⟨(wrap64 (x3_3 + 1)), (by first | rfl | (simp; done) | (simp [*]; done)), H', ⟨by have := HJ1.out; have := HJ11.out; have := HK3.out; have := HJ29.out; have := HK5.out; omega⟩, ⟨by (with_reducible repeat (first | refine blk_drewN ?_ _ | refine blk_drew ?_ | refine blk_alloc ?_ _)); exact BK755.out⟩, ⟨bel_⟩⟩
                    · rw [if_neg c29] at H
                      exact absurd H (by simp)
                  · rw [if_neg c28] at H
                    have c28b0 : decide (x3_3 < (l0_0.length : Int)) = false := decide_eq_false c28
                    clear c28
                    have H' := Aside0.mk H
                    clear H
                    have hcz55_0 : wr.cell? ⟨gb755, 0, none⟩ = some (.slice A0_0 l0_0.length c0_0) := (blk_cell BK755.out 0).trans rfl
                    have hcz55_1 : wr.cell? ⟨gb755, 1, none⟩ = some (.slice A0_1 l0_1.length c0_1) := (blk_cell BK755.out 1).trans rfl
                    have hcz55_2 : wr.cell? ⟨gb755, 2, none⟩ = some (.slice A0_2 l0_2.length c0_2) := (blk_cell BK755.out 2).trans rfl
                    have hcz55_3 : wr.cell? ⟨gb755, 3, none⟩ = some (.slice A0_3 l0_3.length c0_3) := (blk_cell BK755.out 3).trans rfl
                    have hfz55_0 := blk_frozen BK755.out 0
                    have hfz55_1 := blk_frozen BK755.out 1
                    have hfz55_2 := blk_frozen BK755.out 2
                    have hfz55_3 := blk_frozen BK755.out 3
                    go_wp2
                    repeat (go_quiet (fail); try go_wp2)
                    go_loopg [6] k3 (fun kq v6 w' => ∃ (x6_4 : Int), v6 = .int .i64 x6_4 ∧ Aside0 (sequentref14_Valid.l2 kq x6_4 l0_0 l0_1 l0_2 l0_3 = some r) ∧ Aside0 (kq ≤ k3) ∧ Aside0 (w'.heap[gb755]? = some (.cells #[(.slice A0_0 l0_0.length c0_0), (.slice A0_1 l0_1.length c0_1), (.slice A0_2 l0_2.length c0_2), (.slice A0_3 l0_3.length c0_3)] 69 (0, 0))) ∧ Aside0 (Below w.heap.size w w'))
                    case atStart => exact ⟨(0), (by first | rfl | (simp; done) | (simp [*]; done)), H', ⟨Nat.le_refl _⟩, ⟨by (with_reducible repeat (first | refine blk_drewN ?_ _ | refine blk_drew ?_ | refine blk_alloc ?_ _)); exact BK755.out⟩, ⟨bel_⟩⟩
                    case round =>
                      clear H'
                      try clear c1
                      try clear c2
                      try clear p2
                      try clear c3
                      try clear c4
                      try clear c4b0
                      try clear c4b1
                      try clear c5
                      try clear c6
                      try clear c6b0
                      try clear c6b1
                      try clear p6
                      try clear p7
                      try clear q7
                      try clear hx7
                      try clear c8
                      try clear c8b0
                      try clear c8b1
                      try clear c11
                      try clear c15
                      try clear c27
                      try clear c28
                      try clear c28b0
                      try clear c29
                      try clear c29b0
                      try clear c33
                      try clear c35
                      try clear c35b0
                      try clear c36
                      try clear c38
                      try clear c40
                      try clear c41
                      try clear c41b0
                      try clear c42
                      try clear c42b0
                      try clear c43
                      try clear c43b0
                      try clear c44
                      try clear c44b0
                      try clear c44b1
                      try clear c45
                      try clear c45b0
                      try clear c45b1
                      try clear c45b2
                      try clear c46
                      try clear c49
                      try clear c52
                      try clear hcz10_0
                      try clear hcz10_1
                      try clear hcz10_2
                      try clear hcz10_3
                      try clear hcz18_0
                      try clear hcz18_1
                      try clear hcz18_2
                      try clear hcz18_3
                      try clear hcz21_0
                      try clear hcz21_1
                      try clear hcz21_2
                      try clear hcz21_3
                      try clear hcz24_0
                      try clear hcz24_1
                      try clear hcz24_2
                      try clear hcz24_3
                      try clear hcz31_0
                      try clear hcz31_1
                      try clear hcz31_2
                      try clear hcz31_3
                      try clear hcz34_0
                      try clear hcz34_1
                      try clear hcz34_2
                      try clear hcz37_0
                      try clear hcz37_1
                      try clear hcz37_2
                      try clear hcz39_0
                      try clear hcz39_1
                      try clear hcz39_2
                      try clear hcz47_0
                      try clear hcz47_1
                      try clear hcz47_2
                      try clear hcz47_3
                      try clear hcz48_0
                      try clear hcz48_1
                      try clear hcz48_2
                      try clear hcz50_0
                      try clear hcz50_1
                      try clear hcz50_2
                      try clear hcz50_3
                      try clear hcz51_0
                      try clear hcz51_1
                      try clear hcz51_2
                      try clear hcz53_0
                      try clear hcz53_1
                      try clear hcz53_2
                      try clear hcz53_3
                      try clear hcz54_0
                      try clear hcz54_1
                      try clear hcz54_2
                      try clear hcz55_0
                      try clear hcz55_1
                      try clear hcz55_2
                      try clear hcz55_3
                      try clear hcz5_0
                      try clear hcz5_1
                      try clear hcz5_2
                      try clear hcz5_3
                      try clear hcz7_0
                      try clear hcz7_1
                      try clear hcz7_2
                      try clear hcz7_3
                      try clear hcz9_0
                      try clear hcz9_1
                      try clear hcz9_2
                      try clear hcz9_3
                      try clear hfz10_0
                      try clear hfz10_1
                      try clear hfz10_2
                      try clear hfz10_3
                      try clear hfz18_0
                      try clear hfz18_1
                      try clear hfz18_2
                      try clear hfz18_3
                      try clear hfz21_0
                      try clear hfz21_1
                      try clear hfz21_2
                      try clear hfz21_3
                      try clear hfz24_0
                      try clear hfz24_1
                      try clear hfz24_2
                      try clear hfz24_3
                      try clear hfz31_0
                      try clear hfz31_1
                      try clear hfz31_2
                      try clear hfz31_3
                      try clear hfz34_0
                      try clear hfz34_1
                      try clear hfz34_2
                      try clear hfz37_0
                      try clear hfz37_1
                      try clear hfz37_2
                      try clear hfz39_0
                      try clear hfz39_1
                      try clear hfz39_2
                      try clear hfz47_0
                      try clear hfz47_1
                      try clear hfz47_2
                      try clear hfz47_3
                      try clear hfz48_0
                      try clear hfz48_1
                      try clear hfz48_2
                      try clear hfz50_0
                      try clear hfz50_1
                      try clear hfz50_2
                      try clear hfz50_3
                      try clear hfz51_0
                      try clear hfz51_1
                      try clear hfz51_2
                      try clear hfz53_0
                      try clear hfz53_1
                      try clear hfz53_2
                      try clear hfz53_3
                      try clear hfz54_0
                      try clear hfz54_1
                      try clear hfz54_2
                      try clear hfz55_0
                      try clear hfz55_1
                      try clear hfz55_2
                      try clear hfz55_3
                      try clear hfz5_0
                      try clear hfz5_1
                      try clear hfz5_2
                      try clear hfz5_3
                      try clear hfz7_0
                      try clear hfz7_1
                      try clear hfz7_2
                      try clear hfz7_3
                      try clear hfz9_0
                      try clear hfz9_1
                      try clear hfz9_2
                      try clear hfz9_3
                      try clear hx764_0
                      try clear hx764_1
                      try clear hx764_2
                      try clear hx766_0
                      try clear hx766_1
                      try clear hx766_2
                      try clear hx767_0
                      try clear hx767_1
                      try clear hx767_2
                      try clear p2
                      try clear p7
                      try clear p764
                      try clear p766
                      try clear p767
                      try clear q7
                      try clear q764
                      try clear q766
                      try clear q767
                      obtain ⟨x6_4, rfl, HA, HK4, BK755, HB⟩ := hrel
                      cases gk with
                      | zero => exact absurd HA.out (by simp [sequentref14_Valid.l2])
                      | succ k4 =>
                        have H := HA.out
                        clear HA
                        simp only [sequentref14_Valid.l2] at H
                        by_cases c56 : x6_4 < (l0_1.length : Int)
                        · rw [if_pos c56] at H
                          have c56b0 : decide (x6_4 < (l0_1.length : Int)) = true := decide_eq_true c56
                          clear c56
                          have HC57 := Aside0.mk H
                          clear H
                          have hcz58_0 : wr.cell? ⟨gb755, 0, none⟩ = some (.slice A0_0 l0_0.length c0_0) := (blk_cell BK755.out 0).trans rfl
                          have hcz58_1 : wr.cell? ⟨gb755, 1, none⟩ = some (.slice A0_1 l0_1.length c0_1) := (blk_cell BK755.out 1).trans rfl
                          have hcz58_2 : wr.cell? ⟨gb755, 2, none⟩ = some (.slice A0_2 l0_2.length c0_2) := (blk_cell BK755.out 2).trans rfl
                          have hcz58_3 : wr.cell? ⟨gb755, 3, none⟩ = some (.slice A0_3 l0_3.length c0_3) := (blk_cell BK755.out 3).trans rfl
                          have hfz58_0 := blk_frozen BK755.out 0
                          have hfz58_1 := blk_frozen BK755.out 1
                          have hfz58_2 := blk_frozen BK755.out 2
                          have hfz58_3 := blk_frozen BK755.out 3
                          go_upto_region 19 with (fail)
                          repeat (go_quiet (fail); go_upto_region 19 with (fail))
                          go_cut [110] (fun v110 wc => ∃ (kq : Nat) (x110_56 : Bool), v110 = .bool x110_56 ∧ Aside0 (sequentref14_Valid.j6 kq x6_4 x110_56 l0_0 l0_1 l0_2 l0_3 = some r) ∧ Aside0 (kq ≤ k4) ∧ Aside0 (wc.heap[gb755]? = some (.cells #[(.slice A0_0 l0_0.length c0_0), (.slice A0_1 l0_1.length c0_1), (.slice A0_2 l0_2.length c0_2), (.slice A0_3 l0_3.length c0_3)] 69 (0, 0))) ∧ Aside0 (Below w.heap.size w wc))
                          case first =>
                            have H := HC57.out
                            clear HC57
                            by_cases c59 : 0 ≤ x6_4
                            · rw [if_pos c59] at H
                              have c59b0 : decide (0 ≤ x6_4) = true := decide_eq_true c59
                              clear c59
                              (first | rw [c59b0] | (simp only [i64_w, i32_w]; rw [c59b0]) | skip)
                              by_cases c60 : ((rd_T122 l0_1 x6_4).f1) < 1
                              · rw [if_pos c60] at H
                                have c60b0 : decide (((rd_T122 l0_1 x6_4).f1) < 1) = true := decide_eq_true c60
                                clear c60
                                have H' := Aside0.mk H
                                clear H
                                have hcz61_0 : wr.cell? ⟨gb755, 0, none⟩ = some (.slice A0_0 l0_0.length c0_0) := (blk_cell BK755.out 0).trans rfl
                                have hcz61_1 : wr.cell? ⟨gb755, 1, none⟩ = some (.slice A0_1 l0_1.length c0_1) := (blk_cell BK755.out 1).trans rfl
                                have hcz61_2 : wr.cell? ⟨gb755, 2, none⟩ = some (.slice A0_2 l0_2.length c0_2) := (blk_cell BK755.out 2).trans rfl
                                have hcz61_3 : wr.cell? ⟨gb755, 3, none⟩ = some (.slice A0_3 l0_3.length c0_3) := (blk_cell BK755.out 3).trans rfl
                                have hfz61_0 := blk_frozen BK755.out 0
                                have hfz61_1 := blk_frozen BK755.out 1
                                have hfz61_2 := blk_frozen BK755.out 2
                                have hfz61_3 := blk_frozen BK755.out 3
                                have p768 : 0 ≤ (x6_4 : Int) := of_decide_eq_true (by first | (with_reducible assumption) | assumption)
                                have q768 : x6_4 < (l0_1.length : Int) := of_decide_eq_true (by first | (with_reducible assumption) | assumption)
                                obtain ⟨ad768, e768, hx768_0, hx768_1⟩ := at_T122 HR0_1.out x6_4 p768 q768
                                cases e768
                                replace hx768_0 := (HB.out.cell (World.block_lt_of_cell? w _ hx768_0)).trans hx768_0
                                replace hx768_1 := (HB.out.cell (World.block_lt_of_cell? w _ hx768_1)).trans hx768_1
                                replace p768 := eq_true p768
                                replace q768 := eq_true q768
                                go_wp2
                                repeat (go_quiet (fail); try go_wp2)
                                go_meet
                                case rel => exact ⟨_, (true), (by first | rfl | (simp; done) | (simp [*]; done)), H', ⟨by have := HJ1.out; have := HJ11.out; have := HK3.out; have := HK4.out; first | omega | exact Nat.le_refl _⟩, ⟨by (with_reducible repeat (first | refine blk_drewN ?_ _ | refine blk_drew ?_ | refine blk_alloc ?_ _)); exact BK755.out⟩, ⟨bel_⟩⟩
                              · rw [if_neg c60] at H
                                have c60b0 : decide (((rd_T122 l0_1 x6_4).f1) < 1) = false := decide_eq_false c60
                                clear c60
                                have H' := Aside0.mk H
                                clear H
                                have hcz62_0 : wr.cell? ⟨gb755, 0, none⟩ = some (.slice A0_0 l0_0.length c0_0) := (blk_cell BK755.out 0).trans rfl
                                have hcz62_1 : wr.cell? ⟨gb755, 1, none⟩ = some (.slice A0_1 l0_1.length c0_1) := (blk_cell BK755.out 1).trans rfl
                                have hcz62_2 : wr.cell? ⟨gb755, 2, none⟩ = some (.slice A0_2 l0_2.length c0_2) := (blk_cell BK755.out 2).trans rfl
                                have hcz62_3 : wr.cell? ⟨gb755, 3, none⟩ = some (.slice A0_3 l0_3.length c0_3) := (blk_cell BK755.out 3).trans rfl
                                have hfz62_0 := blk_frozen BK755.out 0
                                have hfz62_1 := blk_frozen BK755.out 1
                                have hfz62_2 := blk_frozen BK755.out 2
                                have hfz62_3 := blk_frozen BK755.out 3
                                have p768 : 0 ≤ (x6_4 : Int) := of_decide_eq_true (by first | (with_reducible assumption) | assumption)
                                have q768 : x6_4 < (l0_1.length : Int) := of_decide_eq_true (by first | (with_reducible assumption) | assumption)
                                obtain ⟨ad768, e768, hx768_0, hx768_1⟩ := at_T122 HR0_1.out x6_4 p768 q768
                                cases e768
                                replace hx768_0 := (HB.out.cell (World.block_lt_of_cell? w _ hx768_0)).trans hx768_0
                                replace hx768_1 := (HB.out.cell (World.block_lt_of_cell? w _ hx768_1)).trans hx768_1
                                replace p768 := eq_true p768
                                replace q768 := eq_true q768
                                have p769 : 0 ≤ (x6_4 : Int) := of_decide_eq_true (by first | (with_reducible assumption) | assumption)
                                have q769 : x6_4 < (l0_1.length : Int) := of_decide_eq_true (by first | (with_reducible assumption) | assumption)
                                obtain ⟨ad769, e769, hx769_0, hx769_1⟩ := at_T122 HR0_1.out x6_4 p769 q769
                                obtain rfl : ad768 = ad769 := (by injection e769)
                                replace hx769_0 := (HB.out.cell (World.block_lt_of_cell? w _ hx769_0)).trans hx769_0
                                replace hx769_1 := (HB.out.cell (World.block_lt_of_cell? w _ hx769_1)).trans hx769_1
                                replace p769 := eq_true p769
                                replace q769 := eq_true q769
                                go_wp2
                                repeat (go_quiet (fail); try go_wp2)
                                go_meet
                                case rel => exact ⟨_, (decide (((rd_T122 l0_1 x6_4).f1) > 99)), (by first | rfl | (simp; done) | (simp [*]; done)), H', ⟨by have := HJ1.out; have := HJ11.out; have := HK3.out; have := HK4.out; first | omega | exact Nat.le_refl _⟩, ⟨by (with_reducible repeat (first | refine blk_drewN ?_ _ | refine blk_drew ?_ | refine blk_alloc ?_ _)); exact BK755.out⟩, ⟨bel_⟩⟩
                            · rw [if_neg c59] at H
                              exact absurd H (by simp)
                          case rest =>
                            clear HC57
                            try clear c1
                            try clear c2
                            try clear p2
                            try clear c3
                            try clear c4
                            try clear c4b0
                            try clear c4b1
                            try clear c5
                            try clear c6
                            try clear c6b0
                            try clear c6b1
                            try clear p6
                            try clear p7
                            try clear q7
                            try clear hx7
                            try clear c8
                            try clear c8b0
                            try clear c8b1
                            try clear c11
                            try clear c15
                            try clear c27
                            try clear c28
                            try clear c28b0
                            try clear c29
                            try clear c29b0
                            try clear c33
                            try clear c35
                            try clear c35b0
                            try clear c36
                            try clear c38
                            try clear c40
                            try clear c41
                            try clear c41b0
                            try clear c42
                            try clear c42b0
                            try clear c43
                            try clear c43b0
                            try clear c44
                            try clear c44b0
                            try clear c44b1
                            try clear c45
                            try clear c45b0
                            try clear c45b1
                            try clear c45b2
                            try clear c46
                            try clear c49
                            try clear c52
                            try clear c56
                            try clear c56b0
                            try clear c59
                            try clear c59b0
                            try clear c60
                            try clear c60b0
                            try clear hcz10_0
                            try clear hcz10_1
                            try clear hcz10_2
                            try clear hcz10_3
                            try clear hcz18_0
                            try clear hcz18_1
                            try clear hcz18_2
                            try clear hcz18_3
                            try clear hcz21_0
                            try clear hcz21_1
                            try clear hcz21_2
                            try clear hcz21_3
                            try clear hcz24_0
                            try clear hcz24_1
                            try clear hcz24_2
                            try clear hcz24_3
                            try clear hcz31_0
                            try clear hcz31_1
                            try clear hcz31_2
                            try clear hcz31_3
                            try clear hcz34_0
                            try clear hcz34_1
                            try clear hcz34_2
                            try clear hcz37_0
                            try clear hcz37_1
                            try clear hcz37_2
                            try clear hcz39_0
                            try clear hcz39_1
                            try clear hcz39_2
                            try clear hcz47_0
                            try clear hcz47_1
                            try clear hcz47_2
                            try clear hcz47_3
                            try clear hcz48_0
                            try clear hcz48_1
                            try clear hcz48_2
                            try clear hcz50_0
                            try clear hcz50_1
                            try clear hcz50_2
                            try clear hcz50_3
                            try clear hcz51_0
                            try clear hcz51_1
                            try clear hcz51_2
                            try clear hcz53_0
                            try clear hcz53_1
                            try clear hcz53_2
                            try clear hcz53_3
                            try clear hcz54_0
                            try clear hcz54_1
                            try clear hcz54_2
                            try clear hcz55_0
                            try clear hcz55_1
                            try clear hcz55_2
                            try clear hcz55_3
                            try clear hcz58_0
                            try clear hcz58_1
                            try clear hcz58_2
                            try clear hcz58_3
                            try clear hcz5_0
                            try clear hcz5_1
                            try clear hcz5_2
                            try clear hcz5_3
                            try clear hcz61_0
                            try clear hcz61_1
                            try clear hcz61_2
                            try clear hcz61_3
                            try clear hcz62_0
                            try clear hcz62_1
                            try clear hcz62_2
                            try clear hcz62_3
                            try clear hcz7_0
                            try clear hcz7_1
                            try clear hcz7_2
                            try clear hcz7_3
                            try clear hcz9_0
                            try clear hcz9_1
                            try clear hcz9_2
                            try clear hcz9_3
                            try clear hfz10_0
                            try clear hfz10_1
                            try clear hfz10_2
                            try clear hfz10_3
                            try clear hfz18_0
                            try clear hfz18_1
                            try clear hfz18_2
                            try clear hfz18_3
                            try clear hfz21_0
                            try clear hfz21_1
                            try clear hfz21_2
                            try clear hfz21_3
                            try clear hfz24_0
                            try clear hfz24_1
                            try clear hfz24_2
                            try clear hfz24_3
                            try clear hfz31_0
                            try clear hfz31_1
                            try clear hfz31_2
                            try clear hfz31_3
                            try clear hfz34_0
                            try clear hfz34_1
                            try clear hfz34_2
                            try clear hfz37_0
                            try clear hfz37_1
                            try clear hfz37_2
                            try clear hfz39_0
                            try clear hfz39_1
                            try clear hfz39_2
                            try clear hfz47_0
                            try clear hfz47_1
                            try clear hfz47_2
                            try clear hfz47_3
                            try clear hfz48_0
                            try clear hfz48_1
                            try clear hfz48_2
                            try clear hfz50_0
                            try clear hfz50_1
                            try clear hfz50_2
                            try clear hfz50_3
                            try clear hfz51_0
                            try clear hfz51_1
                            try clear hfz51_2
                            try clear hfz53_0
                            try clear hfz53_1
                            try clear hfz53_2
                            try clear hfz53_3
                            try clear hfz54_0
                            try clear hfz54_1
                            try clear hfz54_2
                            try clear hfz55_0
                            try clear hfz55_1
                            try clear hfz55_2
                            try clear hfz55_3
                            try clear hfz58_0
                            try clear hfz58_1
                            try clear hfz58_2
                            try clear hfz58_3
                            try clear hfz5_0
                            try clear hfz5_1
                            try clear hfz5_2
                            try clear hfz5_3
                            try clear hfz61_0
                            try clear hfz61_1
                            try clear hfz61_2
                            try clear hfz61_3
                            try clear hfz62_0
                            try clear hfz62_1
                            try clear hfz62_2
                            try clear hfz62_3
                            try clear hfz7_0
                            try clear hfz7_1
                            try clear hfz7_2
                            try clear hfz7_3
                            try clear hfz9_0
                            try clear hfz9_1
                            try clear hfz9_2
                            try clear hfz9_3
                            try clear hx764_0
                            try clear hx764_1
                            try clear hx764_2
                            try clear hx766_0
                            try clear hx766_1
                            try clear hx766_2
                            try clear hx767_0
                            try clear hx767_1
                            try clear hx767_2
                            try clear hx768_0
                            try clear hx768_1
                            try clear hx769_0
                            try clear hx769_1
                            try clear p2
                            try clear p6
                            try clear p7
                            try clear p764
                            try clear p766
                            try clear p767
                            try clear p768
                            try clear p769
                            try clear q7
                            try clear q764
                            try clear q766
                            try clear q767
                            try clear q768
                            try clear q769
                            obtain ⟨kq, x110_56, rfl, HA, HJ56, BK755, HB⟩ := hcut
                            cases kq with
                            | zero => exact absurd HA.out (by simp [sequentref14_Valid.j6])
                            | succ kj56 =>
                              have H := HA.out
                              clear HA
                              simp only [sequentref14_Valid.j6] at H
                              by_cases c63 : x110_56 = true
                              · subst c63
                                have H1 : (some false) = some r := by rw [if_pos rfl] at H; exact H
                                clear H
                                have H := H1
                                clear H1
                                obtain rfl := Option.some.inj H
                                go_wp2
                                repeat (go_quiet (fail); try go_wp2)
                                go_ret
                                exact ⟨by first | rfl | (simp [errW_none, errW_some] <;> rfl) | (simp [*, errW_none, errW_some] <;> rfl), bel_⟩
                              · replace c63 := Bool.eq_false_iff.mpr c63
                                subst c63
                                have H1 : (sequentref14_Valid.l3 kj56 x6_4 0 l0_0 l0_1 l0_2 l0_3) = some r := by rw [if_neg (show ¬ (false = true) by decide)] at H; exact H
                                clear H
                                have H := H1
                                clear H1
                                have H' := Aside0.mk H
                                clear H
                                go_wp2
                                repeat (go_quiet (fail); try go_wp2)
                                go_loopg [7] kj56 (fun kq v7 w' => ∃ (x7_6 : Int), v7 = .int .i64 x7_6 ∧ Aside0 (sequentref14_Valid.l3 kq x6_4 x7_6 l0_0 l0_1 l0_2 l0_3 = some r) ∧ Aside0 (kq ≤ kj56) ∧ Aside0 (w'.heap[gb755]? = some (.cells #[(.slice A0_0 l0_0.length c0_0), (.slice A0_1 l0_1.length c0_1), (.slice A0_2 l0_2.length c0_2), (.slice A0_3 l0_3.length c0_3)] 69 (0, 0))) ∧ Aside0 (Below w.heap.size w w'))
                                case atStart => exact ⟨(0), (by first | rfl | (simp; done) | (simp [*]; done)), H', ⟨Nat.le_refl _⟩, ⟨by (with_reducible repeat (first | refine blk_drewN ?_ _ | refine blk_drew ?_ | refine blk_alloc ?_ _)); exact BK755.out⟩, ⟨bel_⟩⟩
                                case round =>
                                  clear H'
                                  try clear c1
                                  try clear c2
                                  try clear p2
                                  try clear c3
                                  try clear c4
                                  try clear c4b0
                                  try clear c4b1
                                  try clear c5
                                  try clear c6
                                  try clear c6b0
                                  try clear c6b1
                                  try clear p6
                                  try clear p7
                                  try clear q7
                                  try clear hx7
                                  try clear c8
                                  try clear c8b0
                                  try clear c8b1
                                  try clear c11
                                  try clear c15
                                  try clear c27
                                  try clear c28
                                  try clear c28b0
                                  try clear c29
                                  try clear c29b0
                                  try clear c33
                                  try clear c35
                                  try clear c35b0
                                  try clear c36
                                  try clear c38
                                  try clear c40
                                  try clear c41
                                  try clear c41b0
                                  try clear c42
                                  try clear c42b0
                                  try clear c43
                                  try clear c43b0
                                  try clear c44
                                  try clear c44b0
                                  try clear c44b1
                                  try clear c45
                                  try clear c45b0
                                  try clear c45b1
                                  try clear c45b2
                                  try clear c46
                                  try clear c49
                                  try clear c52
                                  try clear c56
                                  try clear c56b0
                                  try clear c59
                                  try clear c59b0
                                  try clear c60
                                  try clear c60b0
                                  try clear c63
                                  try clear hcz10_0
                                  try clear hcz10_1
                                  try clear hcz10_2
                                  try clear hcz10_3
                                  try clear hcz18_0
                                  try clear hcz18_1
                                  try clear hcz18_2
                                  try clear hcz18_3
                                  try clear hcz21_0
                                  try clear hcz21_1
                                  try clear hcz21_2
                                  try clear hcz21_3
                                  try clear hcz24_0
                                  try clear hcz24_1
                                  try clear hcz24_2
                                  try clear hcz24_3
                                  try clear hcz31_0
                                  try clear hcz31_1
                                  try clear hcz31_2
                                  try clear hcz31_3
                                  try clear hcz34_0
                                  try clear hcz34_1
                                  try clear hcz34_2
                                  try clear hcz37_0
                                  try clear hcz37_1
                                  try clear hcz37_2
                                  try clear hcz39_0
                                  try clear hcz39_1
                                  try clear hcz39_2
                                  try clear hcz47_0
                                  try clear hcz47_1
                                  try clear hcz47_2
                                  try clear hcz47_3
                                  try clear hcz48_0
                                  try clear hcz48_1
                                  try clear hcz48_2
                                  try clear hcz50_0
                                  try clear hcz50_1
                                  try clear hcz50_2
                                  try clear hcz50_3
                                  try clear hcz51_0
                                  try clear hcz51_1
                                  try clear hcz51_2
                                  try clear hcz53_0
                                  try clear hcz53_1
                                  try clear hcz53_2
                                  try clear hcz53_3
                                  try clear hcz54_0
                                  try clear hcz54_1
                                  try clear hcz54_2
                                  try clear hcz55_0
                                  try clear hcz55_1
                                  try clear hcz55_2
                                  try clear hcz55_3
                                  try clear hcz58_0
                                  try clear hcz58_1
                                  try clear hcz58_2
                                  try clear hcz58_3
                                  try clear hcz5_0
                                  try clear hcz5_1
                                  try clear hcz5_2
                                  try clear hcz5_3
                                  try clear hcz61_0
                                  try clear hcz61_1
                                  try clear hcz61_2
                                  try clear hcz61_3
                                  try clear hcz62_0
                                  try clear hcz62_1
                                  try clear hcz62_2
                                  try clear hcz62_3
                                  try clear hcz7_0
                                  try clear hcz7_1
                                  try clear hcz7_2
                                  try clear hcz7_3
                                  try clear hcz9_0
                                  try clear hcz9_1
                                  try clear hcz9_2
                                  try clear hcz9_3
                                  try clear hfz10_0
                                  try clear hfz10_1
                                  try clear hfz10_2
                                  try clear hfz10_3
                                  try clear hfz18_0
                                  try clear hfz18_1
                                  try clear hfz18_2
                                  try clear hfz18_3
                                  try clear hfz21_0
                                  try clear hfz21_1
                                  try clear hfz21_2
                                  try clear hfz21_3
                                  try clear hfz24_0
                                  try clear hfz24_1
                                  try clear hfz24_2
                                  try clear hfz24_3
                                  try clear hfz31_0
                                  try clear hfz31_1
                                  try clear hfz31_2
                                  try clear hfz31_3
                                  try clear hfz34_0
                                  try clear hfz34_1
                                  try clear hfz34_2
                                  try clear hfz37_0
                                  try clear hfz37_1
                                  try clear hfz37_2
                                  try clear hfz39_0
                                  try clear hfz39_1
                                  try clear hfz39_2
                                  try clear hfz47_0
                                  try clear hfz47_1
                                  try clear hfz47_2
                                  try clear hfz47_3
                                  try clear hfz48_0
                                  try clear hfz48_1
                                  try clear hfz48_2
                                  try clear hfz50_0
                                  try clear hfz50_1
                                  try clear hfz50_2
                                  try clear hfz50_3
                                  try clear hfz51_0
                                  try clear hfz51_1
                                  try clear hfz51_2
                                  try clear hfz53_0
                                  try clear hfz53_1
                                  try clear hfz53_2
                                  try clear hfz53_3
                                  try clear hfz54_0
                                  try clear hfz54_1
                                  try clear hfz54_2
                                  try clear hfz55_0
                                  try clear hfz55_1
                                  try clear hfz55_2
                                  try clear hfz55_3
                                  try clear hfz58_0
                                  try clear hfz58_1
                                  try clear hfz58_2
                                  try clear hfz58_3
                                  try clear hfz5_0
                                  try clear hfz5_1
                                  try clear hfz5_2
                                  try clear hfz5_3
                                  try clear hfz61_0
                                  try clear hfz61_1
                                  try clear hfz61_2
                                  try clear hfz61_3
                                  try clear hfz62_0
                                  try clear hfz62_1
                                  try clear hfz62_2
                                  try clear hfz62_3
                                  try clear hfz7_0
                                  try clear hfz7_1
                                  try clear hfz7_2
                                  try clear hfz7_3
                                  try clear hfz9_0
                                  try clear hfz9_1
                                  try clear hfz9_2
                                  try clear hfz9_3
                                  try clear hx764_0
                                  try clear hx764_1
                                  try clear hx764_2
                                  try clear hx766_0
                                  try clear hx766_1
                                  try clear hx766_2
                                  try clear hx767_0
                                  try clear hx767_1
                                  try clear hx767_2
                                  try clear hx768_0
                                  try clear hx768_1
                                  try clear hx769_0
                                  try clear hx769_1
                                  try clear p2
                                  try clear p6
                                  try clear p7
                                  try clear p764
                                  try clear p766
                                  try clear p767
                                  try clear p768
                                  try clear p769
                                  try clear q7
                                  try clear q764
                                  try clear q766
                                  try clear q767
                                  try clear q768
                                  try clear q769
                                  obtain ⟨x7_6, rfl, HA, HK6, BK755, HB⟩ := hrel
                                  cases gk with
                                  | zero => exact absurd HA.out (by simp [sequentref14_Valid.l3])
                                  | succ k6 =>
                                    have H := HA.out
                                    clear HA
                                    simp only [sequentref14_Valid.l3] at H
                                    by_cases c64 : x7_6 < (l0_0.length : Int)
                                    · rw [if_pos c64] at H
                                      have c64b0 : decide (x7_6 < (l0_0.length : Int)) = true := decide_eq_true c64
                                      clear c64
                                      by_cases c65 : 0 ≤ x7_6
                                      · rw [if_pos c65] at H
                                        have c65b0 : decide (0 ≤ x7_6) = true := decide_eq_true c65
                                        clear c65
                                        by_cases c66 : 0 ≤ x6_4
                                        · rw [if_pos c66] at H
                                          have c66b0 : decide (0 ≤ x6_4) = true := decide_eq_true c66
                                          clear c66
                                          by_cases c67 : x6_4 < (l0_1.length : Int)
                                          · rw [if_pos c67] at H
                                            have c67b0 : decide (x6_4 < (l0_1.length : Int)) = true := decide_eq_true c67
                                            clear c67
                                            by_cases c68 : ((rd_T119 l0_0 x7_6).f1) = ((rd_T122 l0_1 x6_4).f1)
                                            · rw [if_pos c68] at H
                                              have c68b0 : (((rd_T119 l0_0 x7_6).f1) == ((rd_T122 l0_1 x6_4).f1)) = true := beq_iff_eq.mpr c68
                                              have c68b1 : (((rd_T119 l0_0 x7_6).f1) != ((rd_T122 l0_1 x6_4).f1)) = false := bne_eq_false_iff_eq.mpr c68
                                              clear c68
                                              obtain rfl := Option.some.inj H
                                              have hcz69_0 : wr.cell? ⟨gb755, 0, none⟩ = some (.slice A0_0 l0_0.length c0_0) := (blk_cell BK755.out 0).trans rfl
                                              have hcz69_1 : wr.cell? ⟨gb755, 1, none⟩ = some (.slice A0_1 l0_1.length c0_1) := (blk_cell BK755.out 1).trans rfl
                                              have hcz69_2 : wr.cell? ⟨gb755, 2, none⟩ = some (.slice A0_2 l0_2.length c0_2) := (blk_cell BK755.out 2).trans rfl
                                              have hcz69_3 : wr.cell? ⟨gb755, 3, none⟩ = some (.slice A0_3 l0_3.length c0_3) := (blk_cell BK755.out 3).trans rfl
                                              have hfz69_0 := blk_frozen BK755.out 0
                                              have hfz69_1 := blk_frozen BK755.out 1
                                              have hfz69_2 := blk_frozen BK755.out 2
                                              have hfz69_3 := blk_frozen BK755.out 3
                                              have p770 : 0 ≤ (x7_6 : Int) := of_decide_eq_true (by first | (with_reducible assumption) | assumption)
                                              have q770 : x7_6 < (l0_0.length : Int) := of_decide_eq_true (by first | (with_reducible assumption) | assumption)
                                              obtain ⟨ad770, e770, hx770_0, hx770_1, hx770_2⟩ := at_T119 HR0_0.out x7_6 p770 q770
                                              cases e770
                                              replace hx770_0 := (HB.out.cell (World.block_lt_of_cell? w _ hx770_0)).trans hx770_0
                                              replace hx770_1 := (HB.out.cell (World.block_lt_of_cell? w _ hx770_1)).trans hx770_1
                                              replace hx770_2 := (HB.out.cell (World.block_lt_of_cell? w _ hx770_2)).trans hx770_2
                                              replace p770 := eq_true p770
                                              replace q770 := eq_true q770
                                              have p771 : 0 ≤ (x6_4 : Int) := of_decide_eq_true (by first | (with_reducible assumption) | assumption)
                                              have q771 : x6_4 < (l0_1.length : Int) := of_decide_eq_true (by first | (with_reducible assumption) | assumption)
                                              obtain ⟨ad771, e771, hx771_0, hx771_1⟩ := at_T122 HR0_1.out x6_4 p771 q771
                                              cases e771
                                              replace hx771_0 := (HB.out.cell (World.block_lt_of_cell? w _ hx771_0)).trans hx771_0
                                              replace hx771_1 := (HB.out.cell (World.block_lt_of_cell? w _ hx771_1)).trans hx771_1
                                              replace p771 := eq_true p771
                                              replace q771 := eq_true q771
                                              go_wp2
                                              repeat (go_quiet (fail); try go_wp2)
                                              go_ret
                                              exact ⟨by first | rfl | (simp [errW_none, errW_some] <;> rfl) | (simp [*, errW_none, errW_some] <;> rfl), bel_⟩
                                            · rw [if_neg c68] at H
                                              have c68b0 : (((rd_T119 l0_0 x7_6).f1) == ((rd_T122 l0_1 x6_4).f1)) = false := beq_eq_false_iff_ne.mpr c68
                                              have c68b1 : (((rd_T119 l0_0 x7_6).f1) != ((rd_T122 l0_1 x6_4).f1)) = true := bne_iff_ne.mpr c68
                                              have H' := Aside0.mk H
                                              clear H
                                              have hcz70_0 : wr.cell? ⟨gb755, 0, none⟩ = some (.slice A0_0 l0_0.length c0_0) := (blk_cell BK755.out 0).trans rfl
                                              have hcz70_1 : wr.cell? ⟨gb755, 1, none⟩ = some (.slice A0_1 l0_1.length c0_1) := (blk_cell BK755.out 1).trans rfl
                                              have hcz70_2 : wr.cell? ⟨gb755, 2, none⟩ = some (.slice A0_2 l0_2.length c0_2) := (blk_cell BK755.out 2).trans rfl
                                              have hcz70_3 : wr.cell? ⟨gb755, 3, none⟩ = some (.slice A0_3 l0_3.length c0_3) := (blk_cell BK755.out 3).trans rfl
                                              have hfz70_0 := blk_frozen BK755.out 0
                                              have hfz70_1 := blk_frozen BK755.out 1
                                              have hfz70_2 := blk_frozen BK755.out 2
                                              have hfz70_3 := blk_frozen BK755.out 3
                                              have p770 : 0 ≤ (x7_6 : Int) := of_decide_eq_true (by first | (with_reducible assumption) | assumption)
                                              have q770 : x7_6 < (l0_0.length : Int) := of_decide_eq_true (by first | (with_reducible assumption) | assumption)
                                              obtain ⟨ad770, e770, hx770_0, hx770_1, hx770_2⟩ := at_T119 HR0_0.out x7_6 p770 q770
                                              cases e770
                                              replace hx770_0 := (HB.out.cell (World.block_lt_of_cell? w _ hx770_0)).trans hx770_0
                                              replace hx770_1 := (HB.out.cell (World.block_lt_of_cell? w _ hx770_1)).trans hx770_1
                                              replace hx770_2 := (HB.out.cell (World.block_lt_of_cell? w _ hx770_2)).trans hx770_2
                                              replace p770 := eq_true p770
                                              replace q770 := eq_true q770
                                              have p771 : 0 ≤ (x6_4 : Int) := of_decide_eq_true (by first | (with_reducible assumption) | assumption)
                                              have q771 : x6_4 < (l0_1.length : Int) := of_decide_eq_true (by first | (with_reducible assumption) | assumption)
                                              obtain ⟨ad771, e771, hx771_0, hx771_1⟩ := at_T122 HR0_1.out x6_4 p771 q771
                                              cases e771
                                              replace hx771_0 := (HB.out.cell (World.block_lt_of_cell? w _ hx771_0)).trans hx771_0
                                              replace hx771_1 := (HB.out.cell (World.block_lt_of_cell? w _ hx771_1)).trans hx771_1
                                              replace p771 := eq_true p771
                                              replace q771 := eq_true q771
                                              go_wp2
                                              repeat (go_quiet (fail); try go_wp2)
                                              go_roundg k6
                                              case measure => have := HJ1.out; have := HJ11.out; have := HK3.out; have := HK4.out; have := HJ56.out; have := HK6.out; omega
                                              case rel => exact ⟨(wrap64 (x7_6 + 1)), (by first | rfl | (simp; done) | (simp [*]; done)), H', ⟨by have := HJ1.out; have := HJ11.out; have := HK3.out; have := HK4.out; have := HJ56.out; have := HK6.out; omega⟩, ⟨by (with_reducible repeat (first | refine blk_drewN ?_ _ | refine blk_drew ?_ | refine blk_alloc ?_ _)); exact BK755.out⟩, ⟨bel_⟩⟩
                                          · rw [if_neg c67] at H
                                            exact absurd H (by simp)
                                        · rw [if_neg c66] at H
                                          exact absurd H (by simp)
                                      · rw [if_neg c65] at H
                                        exact absurd H (by simp)
                                    · rw [if_neg c64] at H
                                      have c64b0 : decide (x7_6 < (l0_0.length : Int)) = false := decide_eq_false c64
                                      clear c64
                                      have H' := Aside0.mk H
                                      clear H
                                      have hcz71_0 : wr.cell? ⟨gb755, 0, none⟩ = some (.slice A0_0 l0_0.length c0_0) := (blk_cell BK755.out 0).trans rfl
                                      have hcz71_1 : wr.cell? ⟨gb755, 1, none⟩ = some (.slice A0_1 l0_1.length c0_1) := (blk_cell BK755.out 1).trans rfl
                                      have hcz71_2 : wr.cell? ⟨gb755, 2, none⟩ = some (.slice A0_2 l0_2.length c0_2) := (blk_cell BK755.out 2).trans rfl
                                      have hcz71_3 : wr.cell? ⟨gb755, 3, none⟩ = some (.slice A0_3 l0_3.length c0_3) := (blk_cell BK755.out 3).trans rfl
                                      have hfz71_0 := blk_frozen BK755.out 0
                                      have hfz71_1 := blk_frozen BK755.out 1
                                      have hfz71_2 := blk_frozen BK755.out 2
                                      have hfz71_3 := blk_frozen BK755.out 3
                                      go_wp2
                                      repeat (go_quiet (fail); try go_wp2)
                                      go_roundg k6
                                      case measure => have := HJ1.out; have := HJ11.out; have := HK3.out; have := HK4.out; have := HJ56.out; have := HK6.out; omega
                                      case rel => exact ⟨(wrap64 (x6_4 + 1)), (by first | rfl | (simp; done) | (simp [*]; done)), H', ⟨by have := HJ1.out; have := HJ11.out; have := HK3.out; have := HK4.out; have := HJ56.out; have := HK6.out; omega⟩, ⟨by (with_reducible repeat (first | refine blk_drewN ?_ _ | refine blk_drew ?_ | refine blk_alloc ?_ _)); exact BK755.out⟩, ⟨bel_⟩⟩
                        · rw [if_neg c56] at H
                          have c56b0 : decide (x6_4 < (l0_1.length : Int)) = false := decide_eq_false c56
                          clear c56
                          have H' := Aside0.mk H
                          clear H
                          have hcz72_0 : wr.cell? ⟨gb755, 0, none⟩ = some (.slice A0_0 l0_0.length c0_0) := (blk_cell BK755.out 0).trans rfl
                          have hcz72_1 : wr.cell? ⟨gb755, 1, none⟩ = some (.slice A0_1 l0_1.length c0_1) := (blk_cell BK755.out 1).trans rfl
                          have hcz72_2 : wr.cell? ⟨gb755, 2, none⟩ = some (.slice A0_2 l0_2.length c0_2) := (blk_cell BK755.out 2).trans rfl
                          have hcz72_3 : wr.cell? ⟨gb755, 3, none⟩ = some (.slice A0_3 l0_3.length c0_3) := (blk_cell BK755.out 3).trans rfl
                          have hfz72_0 := blk_frozen BK755.out 0
                          have hfz72_1 := blk_frozen BK755.out 1
                          have hfz72_2 := blk_frozen BK755.out 2
                          have hfz72_3 := blk_frozen BK755.out 3
                          go_wp2
                          repeat (go_quiet (fail); try go_wp2)
                          go_loopg [8] k4 (fun kq v8 w' => ∃ (x8_5 : Int), v8 = .int .i64 x8_5 ∧ Aside0 (sequentref14_Valid.l4 kq x8_5 l0_0 l0_1 l0_2 l0_3 = some r) ∧ Aside0 (kq ≤ k4) ∧ Aside0 (w'.heap[gb755]? = some (.cells #[(.slice A0_0 l0_0.length c0_0), (.slice A0_1 l0_1.length c0_1), (.slice A0_2 l0_2.length c0_2), (.slice A0_3 l0_3.length c0_3)] 69 (0, 0))) ∧ Aside0 (Below w.heap.size w w'))
                          case atStart => exact ⟨(0), (by first | rfl | (simp; done) | (simp [*]; done)), H', ⟨Nat.le_refl _⟩, ⟨by (with_reducible repeat (first | refine blk_drewN ?_ _ | refine blk_drew ?_ | refine blk_alloc ?_ _)); exact BK755.out⟩, ⟨bel_⟩⟩
                          case round =>
                            clear H'
                            try clear c1
                            try clear c2
                            try clear p2
                            try clear c3
                            try clear c4
                            try clear c4b0
                            try clear c4b1
                            try clear c5
                            try clear c6
                            try clear c6b0
                            try clear c6b1
                            try clear p6
                            try clear p7
                            try clear q7
                            try clear hx7
                            try clear c8
                            try clear c8b0
                            try clear c8b1
                            try clear c11
                            try clear c15
                            try clear c27
                            try clear c28
                            try clear c28b0
                            try clear c29
                            try clear c29b0
                            try clear c33
                            try clear c35
                            try clear c35b0
                            try clear c36
                            try clear c38
                            try clear c40
                            try clear c41
                            try clear c41b0
                            try clear c42
                            try clear c42b0
                            try clear c43
                            try clear c43b0
                            try clear c44
                            try clear c44b0
                            try clear c44b1
                            try clear c45
                            try clear c45b0
                            try clear c45b1
                            try clear c45b2
                            try clear c46
                            try clear c49
                            try clear c52
                            try clear c56
                            try clear c56b0
                            try clear c59
                            try clear c59b0
                            try clear c60
                            try clear c60b0
                            try clear c63
                            try clear c64
                            try clear c64b0
                            try clear p64
                            try clear c65
                            try clear c65b0
                            try clear c66
                            try clear c66b0
                            try clear c67
                            try clear c67b0
                            try clear c68
                            try clear c68b0
                            try clear c68b1
                            try clear hcz10_0
                            try clear hcz10_1
                            try clear hcz10_2
                            try clear hcz10_3
                            try clear hcz18_0
                            try clear hcz18_1
                            try clear hcz18_2
                            try clear hcz18_3
                            try clear hcz21_0
                            try clear hcz21_1
                            try clear hcz21_2
                            try clear hcz21_3
                            try clear hcz24_0
                            try clear hcz24_1
                            try clear hcz24_2
                            try clear hcz24_3
                            try clear hcz31_0
                            try clear hcz31_1
                            try clear hcz31_2
                            try clear hcz31_3
                            try clear hcz34_0
                            try clear hcz34_1
                            try clear hcz34_2
                            try clear hcz37_0
                            try clear hcz37_1
                            try clear hcz37_2
                            try clear hcz39_0
                            try clear hcz39_1
                            try clear hcz39_2
                            try clear hcz47_0
                            try clear hcz47_1
                            try clear hcz47_2
                            try clear hcz47_3
                            try clear hcz48_0
                            try clear hcz48_1
                            try clear hcz48_2
                            try clear hcz50_0
                            try clear hcz50_1
                            try clear hcz50_2
                            try clear hcz50_3
                            try clear hcz51_0
                            try clear hcz51_1
                            try clear hcz51_2
                            try clear hcz53_0
                            try clear hcz53_1
                            try clear hcz53_2
                            try clear hcz53_3
                            try clear hcz54_0
                            try clear hcz54_1
                            try clear hcz54_2
                            try clear hcz55_0
                            try clear hcz55_1
                            try clear hcz55_2
                            try clear hcz55_3
                            try clear hcz58_0
                            try clear hcz58_1
                            try clear hcz58_2
                            try clear hcz58_3
                            try clear hcz5_0
                            try clear hcz5_1
                            try clear hcz5_2
                            try clear hcz5_3
                            try clear hcz61_0
                            try clear hcz61_1
                            try clear hcz61_2
                            try clear hcz61_3
                            try clear hcz62_0
                            try clear hcz62_1
                            try clear hcz62_2
                            try clear hcz62_3
                            try clear hcz69_0
                            try clear hcz69_1
                            try clear hcz69_2
                            try clear hcz69_3
                            try clear hcz70_0
                            try clear hcz70_1
                            try clear hcz70_2
                            try clear hcz70_3
                            try clear hcz71_0
                            try clear hcz71_1
                            try clear hcz71_2
                            try clear hcz71_3
                            try clear hcz72_0
                            try clear hcz72_1
                            try clear hcz72_2
                            try clear hcz72_3
                            try clear hcz7_0
                            try clear hcz7_1
                            try clear hcz7_2
                            try clear hcz7_3
                            try clear hcz9_0
                            try clear hcz9_1
                            try clear hcz9_2
                            try clear hcz9_3
                            try clear hfz10_0
                            try clear hfz10_1
                            try clear hfz10_2
                            try clear hfz10_3
                            try clear hfz18_0
                            try clear hfz18_1
                            try clear hfz18_2
                            try clear hfz18_3
                            try clear hfz21_0
                            try clear hfz21_1
                            try clear hfz21_2
                            try clear hfz21_3
                            try clear hfz24_0
                            try clear hfz24_1
                            try clear hfz24_2
                            try clear hfz24_3
                            try clear hfz31_0
                            try clear hfz31_1
                            try clear hfz31_2
                            try clear hfz31_3
                            try clear hfz34_0
                            try clear hfz34_1
                            try clear hfz34_2
                            try clear hfz37_0
                            try clear hfz37_1
                            try clear hfz37_2
                            try clear hfz39_0
                            try clear hfz39_1
                            try clear hfz39_2
                            try clear hfz47_0
                            try clear hfz47_1
                            try clear hfz47_2
                            try clear hfz47_3
                            try clear hfz48_0
                            try clear hfz48_1
                            try clear hfz48_2
                            try clear hfz50_0
                            try clear hfz50_1
                            try clear hfz50_2
                            try clear hfz50_3
                            try clear hfz51_0
                            try clear hfz51_1
                            try clear hfz51_2
                            try clear hfz53_0
                            try clear hfz53_1
                            try clear hfz53_2
                            try clear hfz53_3
                            try clear hfz54_0
                            try clear hfz54_1
                            try clear hfz54_2
                            try clear hfz55_0
                            try clear hfz55_1
                            try clear hfz55_2
                            try clear hfz55_3
                            try clear hfz58_0
                            try clear hfz58_1
                            try clear hfz58_2
                            try clear hfz58_3
                            try clear hfz5_0
                            try clear hfz5_1
                            try clear hfz5_2
                            try clear hfz5_3
                            try clear hfz61_0
                            try clear hfz61_1
                            try clear hfz61_2
                            try clear hfz61_3
                            try clear hfz62_0
                            try clear hfz62_1
                            try clear hfz62_2
                            try clear hfz62_3
                            try clear hfz69_0
                            try clear hfz69_1
                            try clear hfz69_2
                            try clear hfz69_3
                            try clear hfz70_0
                            try clear hfz70_1
                            try clear hfz70_2
                            try clear hfz70_3
                            try clear hfz71_0
                            try clear hfz71_1
                            try clear hfz71_2
                            try clear hfz71_3
                            try clear hfz72_0
                            try clear hfz72_1
                            try clear hfz72_2
                            try clear hfz72_3
                            try clear hfz7_0
                            try clear hfz7_1
                            try clear hfz7_2
                            try clear hfz7_3
                            try clear hfz9_0
                            try clear hfz9_1
                            try clear hfz9_2
                            try clear hfz9_3
                            try clear hx764_0
                            try clear hx764_1
                            try clear hx764_2
                            try clear hx766_0
                            try clear hx766_1
                            try clear hx766_2
                            try clear hx767_0
                            try clear hx767_1
                            try clear hx767_2
                            try clear hx768_0
                            try clear hx768_1
                            try clear hx769_0
                            try clear hx769_1
                            try clear hx770_0
                            try clear hx770_1
                            try clear hx770_2
                            try clear hx771_0
                            try clear hx771_1
                            try clear p2
                            try clear p6
                            try clear p7
                            try clear p764
                            try clear p766
                            try clear p767
                            try clear p768
                            try clear p769
                            try clear p770
                            try clear p771
                            try clear q7
                            try clear q764
                            try clear q766
                            try clear q767
                            try clear q768
                            try clear q769
                            try clear q770
                            try clear q771
                            obtain ⟨x8_5, rfl, HA, HK5, BK755, HB⟩ := hrel
                            cases gk with
                            | zero => exact absurd HA.out (by simp [sequentref14_Valid.l4])
                            | succ k5 =>
                              have H := HA.out
                              clear HA
                              simp only [sequentref14_Valid.l4] at H
                              by_cases c73 : x8_5 < (l0_3.length : Int)
                              · rw [if_pos c73] at H
                                have c73b0 : decide (x8_5 < (l0_3.length : Int)) = true := decide_eq_true c73
                                clear c73
                                by_cases c74 : 0 ≤ x8_5
                                · rw [if_pos c74] at H
                                  have c74b0 : decide (0 ≤ x8_5) = true := decide_eq_true c74
                                  clear c74
                                  have HC75 := Aside0.mk H
                                  clear H
                                  have hcz76_0 : wr.cell? ⟨gb755, 0, none⟩ = some (.slice A0_0 l0_0.length c0_0) := (blk_cell BK755.out 0).trans rfl
                                  have hcz76_1 : wr.cell? ⟨gb755, 1, none⟩ = some (.slice A0_1 l0_1.length c0_1) := (blk_cell BK755.out 1).trans rfl
                                  have hcz76_2 : wr.cell? ⟨gb755, 2, none⟩ = some (.slice A0_2 l0_2.length c0_2) := (blk_cell BK755.out 2).trans rfl
                                  have hcz76_3 : wr.cell? ⟨gb755, 3, none⟩ = some (.slice A0_3 l0_3.length c0_3) := (blk_cell BK755.out 3).trans rfl
                                  have hfz76_0 := blk_frozen BK755.out 0
                                  have hfz76_1 := blk_frozen BK755.out 1
                                  have hfz76_2 := blk_frozen BK755.out 2
                                  have hfz76_3 := blk_frozen BK755.out 3
                                  have p772 : 0 ≤ (x8_5 : Int) := of_decide_eq_true (by first | (with_reducible assumption) | assumption)
                                  have q772 : x8_5 < (l0_3.length : Int) := of_decide_eq_true (by first | (with_reducible assumption) | assumption)
                                  obtain ⟨ad772, A772_1, c772_1, e772, hx772_0, hx772_1, hl772_1, hi772_1⟩ := at_T111 HR0_3.out x8_5 p772 q772
                                  cases e772
                                  replace hx772_0 := (HB.out.cell (World.block_lt_of_cell? w _ hx772_0)).trans hx772_0
                                  replace hx772_1 := (HB.out.cell (World.block_lt_of_cell? w _ hx772_1)).trans hx772_1
                                  have HR772_1 := Aside0.mk hi772_1
                                  have HC772_1 := Aside0.mk hl772_1
                                  clear hi772_1 hl772_1
                                  replace p772 := eq_true p772
                                  replace q772 := eq_true q772
                                  go_upto_region 30 with (fail)
                                  repeat (go_quiet (fail); go_upto_region 30 with (fail))
                                  go_cut [151] (fun v151 wc => ∃ (kq : Nat) (x151_74 : Bool), v151 = .bool x151_74 ∧ Aside0 (sequentref14_Valid.j9 kq x8_5 ((rd_T111 l0_3 x8_5).f1) x151_74 l0_0 l0_1 l0_2 l0_3 = some r) ∧ Aside0 (kq ≤ k5) ∧ Aside0 (wc.heap[gb755]? = some (.cells #[(.slice A0_0 l0_0.length c0_0), (.slice A0_1 l0_1.length c0_1), (.slice A0_2 l0_2.length c0_2), (.slice (some ad772) l0_3.length c0_3)] 69 (0, 0))) ∧ Aside0 (Below w.heap.size w wc))
                                  case first =>
                                    have H := HC75.out
                                    clear HC75
                                    by_cases c77 : (((rd_T111 l0_3 x8_5).f1).length : Int) < 1
                                    · rw [if_pos c77] at H
                                      have c77b0 : decide ((((rd_T111 l0_3 x8_5).f1).length : Int) < 1) = true := decide_eq_true c77
                                      have c77b1 : decide (((rd_T111 l0_3 x8_5).f1).length < 1) = true := decide_eq_true (by omega)
                                      clear c77
                                      (first | rw [c77b0] | (simp only [i64_w, i32_w]; rw [c77b0]) | skip)
                                      have H' := Aside0.mk H
                                      clear H
                                      go_wp2
                                      repeat (go_quiet (fail); try go_wp2)
                                      go_meet
                                      case rel => exact ⟨_, (true), (by first | rfl | (simp; done) | (simp [*]; done)), H', ⟨by have := HJ1.out; have := HJ11.out; have := HK3.out; have := HK4.out; have := HK5.out; first | omega | exact Nat.le_refl _⟩, ⟨by (with_reducible repeat (first | refine blk_drewN ?_ _ | refine blk_drew ?_ | refine blk_alloc ?_ _)); exact BK755.out⟩, ⟨bel_⟩⟩
                                    · rw [if_neg c77] at H
                                      have c77b0 : decide ((((rd_T111 l0_3 x8_5).f1).length : Int) < 1) = false := decide_eq_false c77
                                      have c77b1 : decide (((rd_T111 l0_3 x8_5).f1).length < 1) = false := decide_eq_false (by omega)
                                      clear c77
                                      (first | rw [c77b0] | (simp only [i64_w, i32_w]; rw [c77b0]) | skip)
                                      have H' := Aside0.mk H
                                      clear H
                                      go_wp2
                                      repeat (go_quiet (fail); try go_wp2)
                                      go_meet
                                      case rel => exact ⟨_, (decide ((((rd_T111 l0_3 x8_5).f1).length : Int) > 8)), (by first | rfl | (simp; done) | (simp [*]; done)), H', ⟨by have := HJ1.out; have := HJ11.out; have := HK3.out; have := HK4.out; have := HK5.out; first | omega | exact Nat.le_refl _⟩, ⟨by (with_reducible repeat (first | refine blk_drewN ?_ _ | refine blk_drew ?_ | refine blk_alloc ?_ _)); exact BK755.out⟩, ⟨bel_⟩⟩
                                  case rest =>
                                    clear HC75
                                    try clear c1
                                    try clear c2
                                    try clear p2
                                    try clear c3
                                    try clear c4
                                    try clear c4b0
                                    try clear c4b1
                                    try clear c5
                                    try clear c6
                                    try clear c6b0
                                    try clear c6b1
                                    try clear p6
                                    try clear c7
                                    try clear p7
                                    try clear q7
                                    try clear hx7
                                    try clear c8
                                    try clear c8b0
                                    try clear c8b1
                                    try clear c11
                                    try clear c15
                                    try clear c27
                                    try clear c28
                                    try clear c28b0
                                    try clear c29
                                    try clear c29b0
                                    try clear c33
                                    try clear c35
                                    try clear c35b0
                                    try clear c36
                                    try clear c38
                                    try clear c40
                                    try clear c41
                                    try clear c41b0
                                    try clear c42
                                    try clear c42b0
                                    try clear c43
                                    try clear c43b0
                                    try clear c44
                                    try clear c44b0
                                    try clear c44b1
                                    try clear c45
                                    try clear c45b0
                                    try clear c45b1
                                    try clear c45b2
                                    try clear c46
                                    try clear c49
                                    try clear c52
                                    try clear c56
                                    try clear c56b0
                                    try clear c59
                                    try clear c59b0
                                    try clear c60
                                    try clear c60b0
                                    try clear c63
                                    try clear c64
                                    try clear c64b0
                                    try clear p64
                                    try clear c65
                                    try clear c65b0
                                    try clear c66
                                    try clear c66b0
                                    try clear c67
                                    try clear c67b0
                                    try clear c68
                                    try clear c68b0
                                    try clear c68b1
                                    try clear c73
                                    try clear c73b0
                                    try clear c74
                                    try clear c74b0
                                    try clear p76
                                    try clear q76
                                    try clear hx76
                                    try clear c77
                                    try clear c77b0
                                    try clear c77b1
                                    try clear p77
                                    try clear q77
                                    try clear hx77
                                    try clear hcz10_0
                                    try clear hcz10_1
                                    try clear hcz10_2
                                    try clear hcz10_3
                                    try clear hcz18_0
                                    try clear hcz18_1
                                    try clear hcz18_2
                                    try clear hcz18_3
                                    try clear hcz21_0
                                    try clear hcz21_1
                                    try clear hcz21_2
                                    try clear hcz21_3
                                    try clear hcz24_0
                                    try clear hcz24_1
                                    try clear hcz24_2
                                    try clear hcz24_3
                                    try clear hcz31_0
                                    try clear hcz31_1
                                    try clear hcz31_2
                                    try clear hcz31_3
                                    try clear hcz34_0
                                    try clear hcz34_1
                                    try clear hcz34_2
                                    try clear hcz37_0
                                    try clear hcz37_1
                                    try clear hcz37_2
                                    try clear hcz39_0
                                    try clear hcz39_1
                                    try clear hcz39_2
                                    try clear hcz47_0
                                    try clear hcz47_1
                                    try clear hcz47_2
                                    try clear hcz47_3
                                    try clear hcz48_0
                                    try clear hcz48_1
                                    try clear hcz48_2
                                    try clear hcz50_0
                                    try clear hcz50_1
                                    try clear hcz50_2
                                    try clear hcz50_3
                                    try clear hcz51_0
                                    try clear hcz51_1
                                    try clear hcz51_2
                                    try clear hcz53_0
                                    try clear hcz53_1
                                    try clear hcz53_2
                                    try clear hcz53_3
                                    try clear hcz54_0
                                    try clear hcz54_1
                                    try clear hcz54_2
                                    try clear hcz55_0
                                    try clear hcz55_1
                                    try clear hcz55_2
                                    try clear hcz55_3
                                    try clear hcz58_0
                                    try clear hcz58_1
                                    try clear hcz58_2
                                    try clear hcz58_3
                                    try clear hcz5_0
                                    try clear hcz5_1
                                    try clear hcz5_2
                                    try clear hcz5_3
                                    try clear hcz61_0
                                    try clear hcz61_1
                                    try clear hcz61_2
                                    try clear hcz61_3
                                    try clear hcz62_0
                                    try clear hcz62_1
                                    try clear hcz62_2
                                    try clear hcz62_3
                                    try clear hcz69_0
                                    try clear hcz69_1
                                    try clear hcz69_2
                                    try clear hcz69_3
                                    try clear hcz70_0
                                    try clear hcz70_1
                                    try clear hcz70_2
                                    try clear hcz70_3
                                    try clear hcz71_0
                                    try clear hcz71_1
                                    try clear hcz71_2
                                    try clear hcz71_3
                                    try clear hcz72_0
                                    try clear hcz72_1
                                    try clear hcz72_2
                                    try clear hcz72_3
                                    try clear hcz76_0
                                    try clear hcz76_1
                                    try clear hcz76_2
                                    try clear hcz76_3
                                    try clear hcz7_0
                                    try clear hcz7_1
                                    try clear hcz7_2
                                    try clear hcz7_3
                                    try clear hcz9_0
                                    try clear hcz9_1
                                    try clear hcz9_2
                                    try clear hcz9_3
                                    try clear hfz10_0
                                    try clear hfz10_1
                                    try clear hfz10_2
                                    try clear hfz10_3
                                    try clear hfz18_0
                                    try clear hfz18_1
                                    try clear hfz18_2
                                    try clear hfz18_3
                                    try clear hfz21_0
                                    try clear hfz21_1
                                    try clear hfz21_2
                                    try clear hfz21_3
                                    try clear hfz24_0
                                    try clear hfz24_1
                                    try clear hfz24_2
                                    try clear hfz24_3
                                    try clear hfz31_0
                                    try clear hfz31_1
                                    try clear hfz31_2
                                    try clear hfz31_3
                                    try clear hfz34_0
                                    try clear hfz34_1
                                    try clear hfz34_2
                                    try clear hfz37_0
                                    try clear hfz37_1
                                    try clear hfz37_2
                                    try clear hfz39_0
                                    try clear hfz39_1
                                    try clear hfz39_2
                                    try clear hfz47_0
                                    try clear hfz47_1
                                    try clear hfz47_2
                                    try clear hfz47_3
                                    try clear hfz48_0
                                    try clear hfz48_1
                                    try clear hfz48_2
                                    try clear hfz50_0
                                    try clear hfz50_1
                                    try clear hfz50_2
                                    try clear hfz50_3
                                    try clear hfz51_0
                                    try clear hfz51_1
                                    try clear hfz51_2
                                    try clear hfz53_0
                                    try clear hfz53_1
                                    try clear hfz53_2
                                    try clear hfz53_3
                                    try clear hfz54_0
                                    try clear hfz54_1
                                    try clear hfz54_2
                                    try clear hfz55_0
                                    try clear hfz55_1
                                    try clear hfz55_2
                                    try clear hfz55_3
                                    try clear hfz58_0
                                    try clear hfz58_1
                                    try clear hfz58_2
                                    try clear hfz58_3
                                    try clear hfz5_0
                                    try clear hfz5_1
                                    try clear hfz5_2
                                    try clear hfz5_3
                                    try clear hfz61_0
                                    try clear hfz61_1
                                    try clear hfz61_2
                                    try clear hfz61_3
                                    try clear hfz62_0
                                    try clear hfz62_1
                                    try clear hfz62_2
                                    try clear hfz62_3
                                    try clear hfz69_0
                                    try clear hfz69_1
                                    try clear hfz69_2
                                    try clear hfz69_3
                                    try clear hfz70_0
                                    try clear hfz70_1
                                    try clear hfz70_2
                                    try clear hfz70_3
                                    try clear hfz71_0
                                    try clear hfz71_1
                                    try clear hfz71_2
                                    try clear hfz71_3
                                    try clear hfz72_0
                                    try clear hfz72_1
                                    try clear hfz72_2
                                    try clear hfz72_3
                                    try clear hfz76_0
                                    try clear hfz76_1
                                    try clear hfz76_2
                                    try clear hfz76_3
                                    try clear hfz7_0
                                    try clear hfz7_1
                                    try clear hfz7_2
                                    try clear hfz7_3
                                    try clear hfz9_0
                                    try clear hfz9_1
                                    try clear hfz9_2
                                    try clear hfz9_3
                                    try clear hx764_0
                                    try clear hx764_1
                                    try clear hx764_2
                                    try clear hx766_0
                                    try clear hx766_1
                                    try clear hx766_2
                                    try clear hx767_0
                                    try clear hx767_1
                                    try clear hx767_2
                                    try clear hx768_0
                                    try clear hx768_1
                                    try clear hx769_0
                                    try clear hx769_1
                                    try clear hx770_0
                                    try clear hx770_1
                                    try clear hx770_2
                                    try clear hx771_0
                                    try clear hx771_1
                                    try clear hx772_0
                                    try clear hx772_1
                                    try clear p2
                                    try clear p6
                                    try clear p64
                                    try clear p7
                                    try clear p764
                                    try clear p766
                                    try clear p767
                                    try clear p768
                                    try clear p769
                                    try clear p770
                                    try clear p771
                                    try clear p772
                                    try clear q7
                                    try clear q764
                                    try clear q766
                                    try clear q767
                                    try clear q768
                                    try clear q769
                                    try clear q770
                                    try clear q771
                                    try clear q772
                                    obtain ⟨kq, x151_74, rfl, HA, HJ74, BK755, HB⟩ := hcut
                                    cases kq with
                                    | zero => exact absurd HA.out (by simp [sequentref14_Valid.j9])
                                    | succ kj74 =>
                                      have H := HA.out
                                      clear HA
                                      simp only [sequentref14_Valid.j9] at H
                                      by_cases c78 : x151_74 = true
                                      · subst c78
                                        have H1 : (some false) = some r := by rw [if_pos rfl] at H; exact H
                                        clear H
                                        have H := H1
                                        clear H1
                                        obtain rfl := Option.some.inj H
                                        go_wp2
                                        repeat (go_quiet (fail); try go_wp2)
                                        go_ret
                                        exact ⟨by first | rfl | (simp [errW_none, errW_some] <;> rfl) | (simp [*, errW_none, errW_some] <;> rfl), bel_⟩
                                      · replace c78 := Bool.eq_false_iff.mpr c78
                                        subst c78
                                        have H1 : (sequentref14_Valid.l5 kj74 x8_5 ((rd_T111 l0_3 x8_5).f1) 0 l0_0 l0_1 l0_2 l0_3) = some r := by rw [if_neg (show ¬ (false = true) by decide)] at H; exact H
                                        clear H
                                        have H := H1
                                        clear H1
                                        have H' := Aside0.mk H
                                        clear H
                                        go_wp2
                                        repeat (go_quiet (fail); try go_wp2)
                                        go_loopg [10] kj74 (fun kq v10 w' => ∃ (x10_7 : Int), v10 = .int .i64 x10_7 ∧ Aside0 (sequentref14_Valid.l5 kq x8_5 ((rd_T111 l0_3 x8_5).f1) x10_7 l0_0 l0_1 l0_2 l0_3 = some r) ∧ Aside0 (kq ≤ kj74) ∧ Aside0 (w'.heap[gb755]? = some (.cells #[(.slice A0_0 l0_0.length c0_0), (.slice A0_1 l0_1.length c0_1), (.slice A0_2 l0_2.length c0_2), (.slice (some ad772) l0_3.length c0_3)] 69 (0, 0))) ∧ Aside0 (Below w.heap.size w w'))
                                        case atStart => exact ⟨(0), (by first | rfl | (simp; done) | (simp [*]; done)), H', ⟨Nat.le_refl _⟩, ⟨by (with_reducible repeat (first | refine blk_drewN ?_ _ | refine blk_drew ?_ | refine blk_alloc ?_ _)); exact BK755.out⟩, ⟨bel_⟩⟩
                                        case round =>
                                          clear H'
                                          try clear c1
                                          try clear c2
                                          try clear p2
                                          try clear c3
                                          try clear c4
                                          try clear c4b0
                                          try clear c4b1
                                          try clear c5
                                          try clear c6
                                          try clear c6b0
                                          try clear c6b1
                                          try clear p6
                                          try clear c7
                                          try clear p7
                                          try clear q7
                                          try clear hx7
                                          try clear c8
                                          try clear c8b0
                                          try clear c8b1
                                          try clear c11
                                          try clear c15
                                          try clear c27
                                          try clear c28
                                          try clear c28b0
                                          try clear c29
                                          try clear c29b0
                                          try clear c33
                                          try clear c35
                                          try clear c35b0
                                          try clear c36
                                          try clear c38
                                          try clear c40
                                          try clear c41
                                          try clear c41b0
                                          try clear c42
                                          try clear c42b0
                                          try clear c43
                                          try clear c43b0
                                          try clear c44
                                          try clear c44b0
                                          try clear c44b1
                                          try clear c45
                                          try clear c45b0
                                          try clear c45b1
                                          try clear c45b2
                                          try clear c46
                                          try clear c49
                                          try clear c52
                                          try clear c56
                                          try clear c56b0
                                          try clear c59
                                          try clear c59b0
                                          try clear c60
                                          try clear c60b0
                                          try clear c63
                                          try clear c64
                                          try clear c64b0
                                          try clear p64
                                          try clear c65
                                          try clear c65b0
                                          try clear c66
                                          try clear c66b0
                                          try clear c67
                                          try clear c67b0
                                          try clear c68
                                          try clear c68b0
                                          try clear c68b1
                                          try clear c73
                                          try clear c73b0
                                          try clear c74
                                          try clear c74b0
                                          try clear p76
                                          try clear q76
                                          try clear hx76
                                          try clear c77
                                          try clear c77b0
                                          try clear c77b1
                                          try clear p77
                                          try clear q77
                                          try clear hx77
                                          try clear c78
                                          try clear hcz10_0
                                          try clear hcz10_1
                                          try clear hcz10_2
                                          try clear hcz10_3
                                          try clear hcz18_0
                                          try clear hcz18_1
                                          try clear hcz18_2
                                          try clear hcz18_3
                                          try clear hcz21_0
                                          try clear hcz21_1
                                          try clear hcz21_2
                                          try clear hcz21_3
                                          try clear hcz24_0
                                          try clear hcz24_1
                                          try clear hcz24_2
                                          try clear hcz24_3
                                          try clear hcz31_0
                                          try clear hcz31_1
                                          try clear hcz31_2
                                          try clear hcz31_3
                                          try clear hcz34_0
                                          try clear hcz34_1
                                          try clear hcz34_2
                                          try clear hcz37_0
                                          try clear hcz37_1
                                          try clear hcz37_2
                                          try clear hcz39_0
                                          try clear hcz39_1
                                          try clear hcz39_2
                                          try clear hcz47_0
                                          try clear hcz47_1
                                          try clear hcz47_2
                                          try clear hcz47_3
                                          try clear hcz48_0
                                          try clear hcz48_1
                                          try clear hcz48_2
                                          try clear hcz50_0
                                          try clear hcz50_1
                                          try clear hcz50_2
                                          try clear hcz50_3
                                          try clear hcz51_0
                                          try clear hcz51_1
                                          try clear hcz51_2
                                          try clear hcz53_0
                                          try clear hcz53_1
                                          try clear hcz53_2
                                          try clear hcz53_3
                                          try clear hcz54_0
                                          try clear hcz54_1
                                          try clear hcz54_2
                                          try clear hcz55_0
                                          try clear hcz55_1
                                          try clear hcz55_2
                                          try clear hcz55_3
                                          try clear hcz58_0
                                          try clear hcz58_1
                                          try clear hcz58_2
                                          try clear hcz58_3
                                          try clear hcz5_0
                                          try clear hcz5_1
                                          try clear hcz5_2
                                          try clear hcz5_3
                                          try clear hcz61_0
                                          try clear hcz61_1
                                          try clear hcz61_2
                                          try clear hcz61_3
                                          try clear hcz62_0
                                          try clear hcz62_1
                                          try clear hcz62_2
                                          try clear hcz62_3
                                          try clear hcz69_0
                                          try clear hcz69_1
                                          try clear hcz69_2
                                          try clear hcz69_3
                                          try clear hcz70_0
                                          try clear hcz70_1
                                          try clear hcz70_2
                                          try clear hcz70_3
                                          try clear hcz71_0
                                          try clear hcz71_1
                                          try clear hcz71_2
                                          try clear hcz71_3
                                          try clear hcz72_0
                                          try clear hcz72_1
                                          try clear hcz72_2
                                          try clear hcz72_3
                                          try clear hcz76_0
                                          try clear hcz76_1
                                          try clear hcz76_2
                                          try clear hcz76_3
                                          try clear hcz7_0
                                          try clear hcz7_1
                                          try clear hcz7_2
                                          try clear hcz7_3
                                          try clear hcz9_0
                                          try clear hcz9_1
                                          try clear hcz9_2
                                          try clear hcz9_3
                                          try clear hfz10_0
                                          try clear hfz10_1
                                          try clear hfz10_2
                                          try clear hfz10_3
                                          try clear hfz18_0
                                          try clear hfz18_1
                                          try clear hfz18_2
                                          try clear hfz18_3
                                          try clear hfz21_0
                                          try clear hfz21_1
                                          try clear hfz21_2
                                          try clear hfz21_3
                                          try clear hfz24_0
                                          try clear hfz24_1
                                          try clear hfz24_2
                                          try clear hfz24_3
                                          try clear hfz31_0
                                          try clear hfz31_1
                                          try clear hfz31_2
                                          try clear hfz31_3
                                          try clear hfz34_0
                                          try clear hfz34_1
                                          try clear hfz34_2
                                          try clear hfz37_0
                                          try clear hfz37_1
                                          try clear hfz37_2
                                          try clear hfz39_0
                                          try clear hfz39_1
                                          try clear hfz39_2
                                          try clear hfz47_0
                                          try clear hfz47_1
                                          try clear hfz47_2
                                          try clear hfz47_3
                                          try clear hfz48_0
                                          try clear hfz48_1
                                          try clear hfz48_2
                                          try clear hfz50_0
                                          try clear hfz50_1
                                          try clear hfz50_2
                                          try clear hfz50_3
                                          try clear hfz51_0
                                          try clear hfz51_1
                                          try clear hfz51_2
                                          try clear hfz53_0
                                          try clear hfz53_1
                                          try clear hfz53_2
                                          try clear hfz53_3
                                          try clear hfz54_0
                                          try clear hfz54_1
                                          try clear hfz54_2
                                          try clear hfz55_0
                                          try clear hfz55_1
                                          try clear hfz55_2
                                          try clear hfz55_3
                                          try clear hfz58_0
                                          try clear hfz58_1
                                          try clear hfz58_2
                                          try clear hfz58_3
                                          try clear hfz5_0
                                          try clear hfz5_1
                                          try clear hfz5_2
                                          try clear hfz5_3
                                          try clear hfz61_0
                                          try clear hfz61_1
                                          try clear hfz61_2
                                          try clear hfz61_3
                                          try clear hfz62_0
                                          try clear hfz62_1
                                          try clear hfz62_2
                                          try clear hfz62_3
                                          try clear hfz69_0
                                          try clear hfz69_1
                                          try clear hfz69_2
                                          try clear hfz69_3
                                          try clear hfz70_0
                                          try clear hfz70_1
                                          try clear hfz70_2
                                          try clear hfz70_3
                                          try clear hfz71_0
                                          try clear hfz71_1
                                          try clear hfz71_2
                                          try clear hfz71_3
                                          try clear hfz72_0
                                          try clear hfz72_1
                                          try clear hfz72_2
                                          try clear hfz72_3
                                          try clear hfz76_0
                                          try clear hfz76_1
                                          try clear hfz76_2
                                          try clear hfz76_3
                                          try clear hfz7_0
                                          try clear hfz7_1
                                          try clear hfz7_2
                                          try clear hfz7_3
                                          try clear hfz9_0
                                          try clear hfz9_1
                                          try clear hfz9_2
                                          try clear hfz9_3
                                          try clear hx764_0
                                          try clear hx764_1
                                          try clear hx764_2
                                          try clear hx766_0
                                          try clear hx766_1
                                          try clear hx766_2
                                          try clear hx767_0
                                          try clear hx767_1
                                          try clear hx767_2
                                          try clear hx768_0
                                          try clear hx768_1
                                          try clear hx769_0
                                          try clear hx769_1
                                          try clear hx770_0
                                          try clear hx770_1
                                          try clear hx770_2
                                          try clear hx771_0
                                          try clear hx771_1
                                          try clear hx772_0
                                          try clear hx772_1
                                          try clear p2
                                          try clear p6
                                          try clear p64
                                          try clear p7
                                          try clear p76
                                          try clear p764
                                          try clear p766
                                          try clear p767
                                          try clear p768
                                          try clear p769
                                          try clear p77
                                          try clear p770
                                          try clear p771
                                          try clear p772
                                          try clear q7
                                          try clear q76
                                          try clear q764
                                          try clear q766
                                          try clear q767
                                          try clear q768
                                          try clear q769
                                          try clear q77
                                          try clear q770
                                          try clear q771
                                          try clear q772
                                          obtain ⟨x10_7, rfl, HA, HK7, BK755, HB⟩ := hrel
                                          cases gk with
                                          | zero => exact absurd HA.out (by simp [sequentref14_Valid.l5])
                                          | succ k7 =>
                                            have H := HA.out
                                            clear HA
                                            simp only [sequentref14_Valid.l5] at H
                                            by_cases c79 : x10_7 < (((rd_T111 l0_3 x8_5).f1).length : Int)
                                            · rw [if_pos c79] at H
                                              have c79b0 : decide (x10_7 < (((rd_T111 l0_3 x8_5).f1).length : Int)) = true := decide_eq_true c79
                                              clear c79
                                              by_cases c80 : 0 ≤ x10_7
                                              · rw [if_pos c80] at H
                                                have c80b0 : decide (0 ≤ x10_7) = true := decide_eq_true c80
                                                clear c80
                                                replace H := Option.bind_eq_some_iff.mp H
                                                obtain ⟨t774, A810, H⟩ := H
                                                replace H : (if t774 = true then (if (rdOf ByteArray.empty ((rd_T111 l0_3 x8_5).f1) x10_7).toList = ([124, 45] : List UInt8) then (some false) else (sequentref14_Valid.l5 k7 x8_5 ((rd_T111 l0_3 x8_5).f1) (wrap64 (x10_7 + 1)) l0_0 l0_1 l0_2 l0_3)) else (some false)) = some r := H
                                                have A81 := Aside0.mk A810
                                                clear A810
                                                by_cases c82 : t774 = true
                                                · subst c82
                                                  have H1 : (if (rdOf ByteArray.empty ((rd_T111 l0_3 x8_5).f1) x10_7).toList = ([124, 45] : List UInt8) then (some false) else (sequentref14_Valid.l5 k7 x8_5 ((rd_T111 l0_3 x8_5).f1) (wrap64 (x10_7 + 1)) l0_0 l0_1 l0_2 l0_3)) = some r := by rw [if_pos rfl] at H; exact H
                                                  clear H
                                                  have H := H1
                                                  clear H1
                                                  by_cases c83 : (rdOf ByteArray.empty ((rd_T111 l0_3 x8_5).f1) x10_7).toList = ([124, 45] : List UInt8)
                                                  · rw [if_pos c83] at H
                                                    have c83b0 : ((rdOf ByteArray.empty ((rd_T111 l0_3 x8_5).f1) x10_7).toList == ([124, 45] : List UInt8)) = true := beq_iff_eq.mpr c83
                                                    have c83b1 : ((rdOf ByteArray.empty ((rd_T111 l0_3 x8_5).f1) x10_7).toList != ([124, 45] : List UInt8)) = false := bne_eq_false_iff_eq.mpr c83
                                                    clear c83
                                                    obtain rfl := Option.some.inj H
                                                    have p773 : 0 ≤ (x10_7 : Int) := of_decide_eq_true (by first | (with_reducible assumption) | assumption)
                                                    have q773 : x10_7 < (((rd_T111 l0_3 x8_5).f1).length : Int) := of_decide_eq_true (by first | (with_reducible assumption) | assumption)
                                                    obtain ⟨ad773, e773, hx773_0⟩ := Kd.at_string HR772_1.out x10_7 p773 q773
                                                    cases e773
                                                    replace hx773_0 := (HB.out.cell (World.block_lt_of_cell? w _ hx773_0)).trans hx773_0
                                                    replace p773 := eq_true p773
                                                    replace q773 := eq_true q773
                                                    go_wp2_with (first | (go_at_call 92; (with_reducible refine (sequentref02_Name.calls k7 (rdOf ByteArray.empty ((rd_T111 l0_3 x8_5).f1) x10_7) true _ A81.out).mono ?_); rintro e w' ⟨rfl, ⟨nd, rfl⟩⟩; (try first | exact ⟨rfl, _, World.drewN_drewN _ _ _⟩ | exact ⟨rfl, _, Eq.trans (World.drewN_drewN _ _ _) (congrArg (World.drewN _) (Nat.add_assoc _ _ _))⟩); have p775 : 0 ≤ (x10_7 : Int) := of_decide_eq_true (by first | (with_reducible assumption) | assumption); have q775 : x10_7 < (((rd_T111 l0_3 x8_5).f1).length : Int) := of_decide_eq_true (by first | (with_reducible assumption) | assumption); obtain ⟨ad775, e775, hx775_0⟩ := Kd.at_string HR772_1.out x10_7 p775 q775; obtain rfl : ad773 = ad775 := (by injection e775); replace hx775_0 := (HB.out.cell (World.block_lt_of_cell? w _ hx775_0)).trans hx775_0; replace p775 := eq_true p775; replace q775 := eq_true q775))
                                                    repeat (go_quiet (first | (go_at_call 92; (with_reducible refine (sequentref02_Name.calls k7 (rdOf ByteArray.empty ((rd_T111 l0_3 x8_5).f1) x10_7) true _ A81.out).mono ?_); rintro e w' ⟨rfl, ⟨nd, rfl⟩⟩; (try first | exact ⟨rfl, _, World.drewN_drewN _ _ _⟩ | exact ⟨rfl, _, Eq.trans (World.drewN_drewN _ _ _) (congrArg (World.drewN _) (Nat.add_assoc _ _ _))⟩); have p775 : 0 ≤ (x10_7 : Int) := of_decide_eq_true (by first | (with_reducible assumption) | assumption); have q775 : x10_7 < (((rd_T111 l0_3 x8_5).f1).length : Int) := of_decide_eq_true (by first | (with_reducible assumption) | assumption); obtain ⟨ad775, e775, hx775_0⟩ := Kd.at_string HR772_1.out x10_7 p775 q775; obtain rfl : ad773 = ad775 := (by injection e775); replace hx775_0 := (HB.out.cell (World.block_lt_of_cell? w _ hx775_0)).trans hx775_0; replace p775 := eq_true p775; replace q775 := eq_true q775)); try go_wp2_with (first | (go_at_call 92; (with_reducible refine (sequentref02_Name.calls k7 (rdOf ByteArray.empty ((rd_T111 l0_3 x8_5).f1) x10_7) true _ A81.out).mono ?_); rintro e w' ⟨rfl, ⟨nd, rfl⟩⟩; (try first | exact ⟨rfl, _, World.drewN_drewN _ _ _⟩ | exact ⟨rfl, _, Eq.trans (World.drewN_drewN _ _ _) (congrArg (World.drewN _) (Nat.add_assoc _ _ _))⟩); have p775 : 0 ≤ (x10_7 : Int) := of_decide_eq_true (by first | (with_reducible assumption) | assumption); have q775 : x10_7 < (((rd_T111 l0_3 x8_5).f1).length : Int) := of_decide_eq_true (by first | (with_reducible assumption) | assumption); obtain ⟨ad775, e775, hx775_0⟩ := Kd.at_string HR772_1.out x10_7 p775 q775; obtain rfl : ad773 = ad775 := (by injection e775); replace hx775_0 := (HB.out.cell (World.block_lt_of_cell? w _ hx775_0)).trans hx775_0; replace p775 := eq_true p775; replace q775 := eq_true q775)))
                                                    go_ret
                                                    exact ⟨by first | rfl | (simp [errW_none, errW_some] <;> rfl) | (simp [*, errW_none, errW_some] <;> rfl), bel_⟩
                                                  · rw [if_neg c83] at H
                                                    have c83b0 : ((rdOf ByteArray.empty ((rd_T111 l0_3 x8_5).f1) x10_7).toList == ([124, 45] : List UInt8)) = false := beq_eq_false_iff_ne.mpr c83
                                                    have c83b1 : ((rdOf ByteArray.empty ((rd_T111 l0_3 x8_5).f1) x10_7).toList != ([124, 45] : List UInt8)) = true := bne_iff_ne.mpr c83
                                                    have H' := Aside0.mk H
                                                    clear H
                                                    have p773 : 0 ≤ (x10_7 : Int) := of_decide_eq_true (by first | (with_reducible assumption) | assumption)
                                                    have q773 : x10_7 < (((rd_T111 l0_3 x8_5).f1).length : Int) := of_decide_eq_true (by first | (with_reducible assumption) | assumption)
                                                    obtain ⟨ad773, e773, hx773_0⟩ := Kd.at_string HR772_1.out x10_7 p773 q773
                                                    cases e773
                                                    replace hx773_0 := (HB.out.cell (World.block_lt_of_cell? w _ hx773_0)).trans hx773_0
                                                    replace p773 := eq_true p773
                                                    replace q773 := eq_true q773
                                                    go_wp2_with (first | (go_at_call 92; (with_reducible refine (sequentref02_Name.calls k7 (rdOf ByteArray.empty ((rd_T111 l0_3 x8_5).f1) x10_7) true _ A81.out).mono ?_); rintro e w' ⟨rfl, ⟨nd, rfl⟩⟩; (try first | exact ⟨rfl, _, World.drewN_drewN _ _ _⟩ | exact ⟨rfl, _, Eq.trans (World.drewN_drewN _ _ _) (congrArg (World.drewN _) (Nat.add_assoc _ _ _))⟩); have p775 : 0 ≤ (x10_7 : Int) := of_decide_eq_true (by first | (with_reducible assumption) | assumption); have q775 : x10_7 < (((rd_T111 l0_3 x8_5).f1).length : Int) := of_decide_eq_true (by first | (with_reducible assumption) | assumption); obtain ⟨ad775, e775, hx775_0⟩ := Kd.at_string HR772_1.out x10_7 p775 q775; obtain rfl : ad773 = ad775 := (by injection e775); replace hx775_0 := (HB.out.cell (World.block_lt_of_cell? w _ hx775_0)).trans hx775_0; replace p775 := eq_true p775; replace q775 := eq_true q775))
                                                    repeat (go_quiet (first | (go_at_call 92; (with_reducible refine (sequentref02_Name.calls k7 (rdOf ByteArray.empty ((rd_T111 l0_3 x8_5).f1) x10_7) true _ A81.out).mono ?_); rintro e w' ⟨rfl, ⟨nd, rfl⟩⟩; (try first | exact ⟨rfl, _, World.drewN_drewN _ _ _⟩ | exact ⟨rfl, _, Eq.trans (World.drewN_drewN _ _ _) (congrArg (World.drewN _) (Nat.add_assoc _ _ _))⟩); have p775 : 0 ≤ (x10_7 : Int) := of_decide_eq_true (by first | (with_reducible assumption) | assumption); have q775 : x10_7 < (((rd_T111 l0_3 x8_5).f1).length : Int) := of_decide_eq_true (by first | (with_reducible assumption) | assumption); obtain ⟨ad775, e775, hx775_0⟩ := Kd.at_string HR772_1.out x10_7 p775 q775; obtain rfl : ad773 = ad775 := (by injection e775); replace hx775_0 := (HB.out.cell (World.block_lt_of_cell? w _ hx775_0)).trans hx775_0; replace p775 := eq_true p775; replace q775 := eq_true q775)); try go_wp2_with (first | (go_at_call 92; (with_reducible refine (sequentref02_Name.calls k7 (rdOf ByteArray.empty ((rd_T111 l0_3 x8_5).f1) x10_7) true _ A81.out).mono ?_); rintro e w' ⟨rfl, ⟨nd, rfl⟩⟩; (try first | exact ⟨rfl, _, World.drewN_drewN _ _ _⟩ | exact ⟨rfl, _, Eq.trans (World.drewN_drewN _ _ _) (congrArg (World.drewN _) (Nat.add_assoc _ _ _))⟩); have p775 : 0 ≤ (x10_7 : Int) := of_decide_eq_true (by first | (with_reducible assumption) | assumption); have q775 : x10_7 < (((rd_T111 l0_3 x8_5).f1).length : Int) := of_decide_eq_true (by first | (with_reducible assumption) | assumption); obtain ⟨ad775, e775, hx775_0⟩ := Kd.at_string HR772_1.out x10_7 p775 q775; obtain rfl : ad773 = ad775 := (by injection e775); replace hx775_0 := (HB.out.cell (World.block_lt_of_cell? w _ hx775_0)).trans hx775_0; replace p775 := eq_true p775; replace q775 := eq_true q775)))
                                                    go_roundg k7
                                                    case measure => have := HJ1.out; have := HJ11.out; have := HK3.out; have := HK4.out; have := HK5.out; have := HJ74.out; have := HK7.out; omega
                                                    case rel => exact ⟨(wrap64 (x10_7 + 1)), (by first | rfl | (simp; done) | (simp [*]; done)), H', ⟨by have := HJ1.out; have := HJ11.out; have := HK3.out; have := HK4.out; have := HK5.out; have := HJ74.out; have := HK7.out; omega⟩, ⟨by (with_reducible repeat (first | refine blk_drewN ?_ _ | refine blk_drew ?_ | refine blk_alloc ?_ _)); exact BK755.out⟩, ⟨bel_⟩⟩
                                                · replace c82 := Bool.eq_false_iff.mpr c82
                                                  subst c82
                                                  have H1 : (some false) = some r := by rw [if_neg (show ¬ (false = true) by decide)] at H; exact H
                                                  clear H
                                                  have H := H1
                                                  clear H1
                                                  obtain rfl := Option.some.inj H
                                                  have p773 : 0 ≤ (x10_7 : Int) := of_decide_eq_true (by first | (with_reducible assumption) | assumption)
                                                  have q773 : x10_7 < (((rd_T111 l0_3 x8_5).f1).length : Int) := of_decide_eq_true (by first | (with_reducible assumption) | assumption)
                                                  obtain ⟨ad773, e773, hx773_0⟩ := Kd.at_string HR772_1.out x10_7 p773 q773
                                                  cases e773
                                                  replace hx773_0 := (HB.out.cell (World.block_lt_of_cell? w _ hx773_0)).trans hx773_0
                                                  replace p773 := eq_true p773
                                                  replace q773 := eq_true q773
                                                  go_wp2_with (first | (go_at_call 92; (with_reducible refine (sequentref02_Name.calls k7 (rdOf ByteArray.empty ((rd_T111 l0_3 x8_5).f1) x10_7) false _ A81.out).mono ?_); rintro e w' ⟨rfl, ⟨nd, rfl⟩⟩; (try first | exact ⟨rfl, _, World.drewN_drewN _ _ _⟩ | exact ⟨rfl, _, Eq.trans (World.drewN_drewN _ _ _) (congrArg (World.drewN _) (Nat.add_assoc _ _ _))⟩)))
                                                  repeat (go_quiet (first | (go_at_call 92; (with_reducible refine (sequentref02_Name.calls k7 (rdOf ByteArray.empty ((rd_T111 l0_3 x8_5).f1) x10_7) false _ A81.out).mono ?_); rintro e w' ⟨rfl, ⟨nd, rfl⟩⟩; (try first | exact ⟨rfl, _, World.drewN_drewN _ _ _⟩ | exact ⟨rfl, _, Eq.trans (World.drewN_drewN _ _ _) (congrArg (World.drewN _) (Nat.add_assoc _ _ _))⟩))); try go_wp2_with (first | (go_at_call 92; (with_reducible refine (sequentref02_Name.calls k7 (rdOf ByteArray.empty ((rd_T111 l0_3 x8_5).f1) x10_7) false _ A81.out).mono ?_); rintro e w' ⟨rfl, ⟨nd, rfl⟩⟩; (try first | exact ⟨rfl, _, World.drewN_drewN _ _ _⟩ | exact ⟨rfl, _, Eq.trans (World.drewN_drewN _ _ _) (congrArg (World.drewN _) (Nat.add_assoc _ _ _))⟩))))
                                                  go_ret
                                                  exact ⟨by first | rfl | (simp [errW_none, errW_some] <;> rfl) | (simp [*, errW_none, errW_some] <;> rfl), bel_⟩
                                              · rw [if_neg c80] at H
                                                exact absurd H (by simp)
                                            · rw [if_neg c79] at H
                                              have c79b0 : decide (x10_7 < (((rd_T111 l0_3 x8_5).f1).length : Int)) = false := decide_eq_false c79
                                              clear c79
                                              have H' := Aside0.mk H
                                              clear H
                                              go_wp2
                                              repeat (go_quiet (fail); try go_wp2)
                                              go_roundg k7
                                              case measure => have := HJ1.out; have := HJ11.out; have := HK3.out; have := HK4.out; have := HK5.out; have := HJ74.out; have := HK7.out; omega
                                              case rel => exact ⟨(wrap64 (x8_5 + 1)), (by first | rfl | (simp; done) | (simp [*]; done)), H', ⟨by have := HJ1.out; have := HJ11.out; have := HK3.out; have := HK4.out; have := HK5.out; have := HJ74.out; have := HK7.out; omega⟩, ⟨by (with_reducible repeat (first | refine blk_drewN ?_ _ | refine blk_drew ?_ | refine blk_alloc ?_ _)); exact BK755.out⟩, ⟨bel_⟩⟩
                                · rw [if_neg c74] at H
                                  exact absurd H (by simp)
                              · rw [if_neg c73] at H
                                have c73b0 : decide (x8_5 < (l0_3.length : Int)) = false := decide_eq_false c73
                                clear c73
                                obtain rfl := Option.some.inj H
                                have hcz84_0 : wr.cell? ⟨gb755, 0, none⟩ = some (.slice A0_0 l0_0.length c0_0) := (blk_cell BK755.out 0).trans rfl
                                have hcz84_1 : wr.cell? ⟨gb755, 1, none⟩ = some (.slice A0_1 l0_1.length c0_1) := (blk_cell BK755.out 1).trans rfl
                                have hcz84_2 : wr.cell? ⟨gb755, 2, none⟩ = some (.slice A0_2 l0_2.length c0_2) := (blk_cell BK755.out 2).trans rfl
                                have hcz84_3 : wr.cell? ⟨gb755, 3, none⟩ = some (.slice A0_3 l0_3.length c0_3) := (blk_cell BK755.out 3).trans rfl
                                have hfz84_0 := blk_frozen BK755.out 0
                                have hfz84_1 := blk_frozen BK755.out 1
                                have hfz84_2 := blk_frozen BK755.out 2
                                have hfz84_3 := blk_frozen BK755.out 3
                                go_wp2
                                repeat (go_quiet (fail); try go_wp2)
                                go_ret
                                exact ⟨by first | rfl | (simp [errW_none, errW_some] <;> rfl) | (simp [*, errW_none, errW_some] <;> rfl), bel_⟩

end Go.Proofs.Ytgnklkmifcmlhaa.Q
