/- Proved here: parts of the proof of a given statement (HRowSignatureAdds): contracts of the functions that it reaches, what they answer, and in the last text the statement itself. Conditions: those that each theorem names. -/
import Derived.Test.YtgnklkmifcmlhaaZSAX3
import Derived.Test.YtgnklkmifcmlhaaZSAX11
-- written by a program of this session (wip/tools/myprint.py) out of the translation
namespace Go.Proofs.Ytgnklkmifcmlhaa.Q
open Go.RowKit Go.Proofs.YtgnklkmifcmlhaaW.PrintWords Go.Proofs.YtgnklkmifcmlhaaW.PrintLast Go.Proofs.YtgnklkmifcmlhaaW.PrintMore
attribute [local go_sem] max2_int min2_int max_two min_two max_three min_three max_four min_four   -- for this text's walks alone
set_option linter.unusedVariables false
set_option linter.unusedSimpArgs false

/-! ### sequentref04_Check: function 87 -/
mutual
def sequentref04_Check.j0 : Nat → Bool → List (S124) → List (S92) → Option (Int)
 | 0, _, _, _ => none
 | k + 1, x16, x819000, x819001 => if x16 = true then (some 4) else (sequentref04_Check.l0 k 0 x819000 x819001)
def sequentref04_Check.l0 : Nat → Int → List (S124) → List (S92) → Option (Int)
 | 0, _, _, _ => none
 | k + 1, x3, x819000, x819001 => if x3 < (x819000.length : Int) then (if 0 ≤ x3 then ((sequentref04_Operator.f k ((rd_T124 x819000 x3).f0)).bind fun t820 => (if t820 = true then (if ((rd_T124 x819000 x3).f1) < 0 then (sequentref04_Check.j2 k x3 true x819000 x819001) else (sequentref04_Check.j2 k x3 (decide (((rd_T124 x819000 x3).f1) > 8)) x819000 x819001)) else (sequentref04_Check.j2 k x3 true x819000 x819001))) else (none)) else (sequentref04_Check.l2 k 0 x819000 x819001)
def sequentref04_Check.j2 : Nat → Int → Bool → List (S124) → List (S92) → Option (Int)
 | 0, _, _, _, _ => none
 | k + 1, x3, x49, x819000, x819001 => if x49 = true then (some 8) else (sequentref04_Check.l1 k x3 0 x819000 x819001)
def sequentref04_Check.l1 : Nat → Int → Int → List (S124) → List (S92) → Option (Int)
 | 0, _, _, _, _ => none
 | k + 1, x3, x4, x819000, x819001 => if x4 < x3 then (if 0 ≤ x4 then (if x4 < (x819000.length : Int) then (if 0 ≤ x3 then (if x3 < (x819000.length : Int) then (if ((rd_T124 x819000 x4).f0).toList = ((rd_T124 x819000 x3).f0).toList then (some 8) else (sequentref04_Check.l1 k x3 (wrap64 (x4 + 1)) x819000 x819001)) else (none)) else (none)) else (none)) else (none)) else (sequentref04_Check.l0 k (wrap64 (x3 + 1)) x819000 x819001)
def sequentref04_Check.l2 : Nat → Int → List (S124) → List (S92) → Option (Int)
 | 0, _, _, _ => none
 | k + 1, x5, x819000, x819001 => if x5 < (x819001.length : Int) then (if 0 ≤ x5 then ((sequentref02_Name.f k ((rd_T92 x819001 x5).f0)).bind fun t826 => (if t826 = true then ((sequentref01_Valid.f k ((rd_T92 x819001 x5).f1.f0) ((rd_T92 x819001 x5).f1.f1) ((rd_T92 x819001 x5).f1.f2)).bind fun t828 => (if t828 = true then ((sequentref04_OverType.f k x819000 x819001 ((rd_T92 x819001 x5).f1.f0) ((rd_T92 x819001 x5).f1.f1) ((rd_T92 x819001 x5).f1.f2)).bind fun t830 => (sequentref04_Check.j5 k x5 (!t830) x819000 x819001)) else (sequentref04_Check.j5 k x5 true x819000 x819001))) else (sequentref04_Check.j5 k x5 true x819000 x819001))) else (none)) else (some 0)
def sequentref04_Check.j5 : Nat → Int → Bool → List (S124) → List (S92) → Option (Int)
 | 0, _, _, _, _ => none
 | k + 1, x5, x103, x819000, x819001 => if x103 = true then (some 8) else (sequentref04_Check.l3 k x5 0 x819000 x819001)
def sequentref04_Check.l3 : Nat → Int → Int → List (S124) → List (S92) → Option (Int)
 | 0, _, _, _, _ => none
 | k + 1, x5, x6, x819000, x819001 => if x6 < x5 then (if 0 ≤ x6 then (if x6 < (x819001.length : Int) then (if 0 ≤ x5 then (if x5 < (x819001.length : Int) then (if ((rd_T92 x819001 x6).f0).toList = ((rd_T92 x819001 x5).f0).toList then (some 8) else (sequentref04_Check.l3 k x5 (wrap64 (x6 + 1)) x819000 x819001)) else (none)) else (none)) else (none)) else (none)) else (sequentref04_Check.l2 k (wrap64 (x5 + 1)) x819000 x819001)
end
def sequentref04_Check.f (k : Nat) (l0_0 : List (S124)) (l0_1 : List (S92)) : Option (Int) := if (l0_0.length : Int) > 512 then (sequentref04_Check.j0 k true l0_0 l0_1) else (sequentref04_Check.j0 k (decide ((l0_1.length : Int) > 512)) l0_0 l0_1)
def sequentref04_Check.T11 : Bool × List (List Nat × List Nat) := (true, [([], []), ([0], [0]), ([], []), ([1, 2], [1, 2]), ([3], [3]), ([4], [4]), ([], []), ([6], [6]), ([], []), ([7, 8], [7, 8]), ([9], [9]), ([10], [10]), ([5, 11], [5, 11])])
def sequentref04_Check.B11 : List Nat := [0, 1, 0, 7, 15, 31, 0, 64, 0, 448, 960, 1984, 4095]
theorem sequentref04_Check.tab11 : rtab .any (opsOf Try.f87 11) = sequentref04_Check.T11 := by kernel_rfl
theorem sequentref04_Check.bits11 : waitsOk sequentref04_Check.T11.2 sequentref04_Check.B11 = true := by kernel_rfl
def sequentref04_Check.T16 : Bool × List (List Nat × List Nat) := (true, [([], []), ([0], [0]), ([], []), ([1, 2], [1, 2]), ([3], [3]), ([4], [4]), ([5], [5]), ([6], [6]), ([7, 6], [7]), ([8], [8]), ([9, 8], [8, 9]), ([8], [8]), ([10, 11, 8], [8, 10, 11]), ([12, 8], [8, 12]), ([13, 8], [8, 13]), ([14, 8, 8], [8, 14]), ([15, 8], [8, 15]), ([8, 16], [8, 16]), ([17, 15], [17]), ([18], [18]), ([18], [18]), ([20, 18], [18, 20]), ([18], [18]), ([21, 22, 18], [18, 21, 22]), ([23, 18], [18, 23]), ([24, 18], [18, 24]), ([19, 25, 18, 18], [18, 19, 25]), ([26, 18], [18, 26]), ([18, 27], [18, 27])])
def sequentref04_Check.B16 : List Nat := [0, 1, 0, 7, 15, 31, 63, 127, 255, 511, 1023, 511, 4095, 8191, 16383, 32767, 65535, 131071, 262143, 524287, 524287, 1572863, 524287, 7864319, 16252927, 33030143, 67108863, 134217727, 268435455]
theorem sequentref04_Check.tab16 : rtab .any (opsOf Try.f87 16) = sequentref04_Check.T16 := by kernel_rfl
theorem sequentref04_Check.bits16 : waitsOk sequentref04_Check.T16.2 sequentref04_Check.B16 = true := by kernel_rfl
def sequentref04_Check.T21 : Bool × List (List Nat × List Nat) := (true, [([], []), ([0], [0]), ([], []), ([1, 2], [1, 2]), ([3], [3]), ([4], [4]), ([], []), ([6], [6]), ([], []), ([7, 8], [7, 8]), ([9], [9]), ([10], [10]), ([5, 11], [5, 11])])
def sequentref04_Check.B21 : List Nat := [0, 1, 0, 7, 15, 31, 0, 64, 0, 448, 960, 1984, 4095]
theorem sequentref04_Check.tab21 : rtab .any (opsOf Try.f87 21) = sequentref04_Check.T21 := by kernel_rfl
theorem sequentref04_Check.bits21 : waitsOk sequentref04_Check.T21.2 sequentref04_Check.B21 = true := by kernel_rfl
set_option maxHeartbeats 8000000 in
set_option maxRecDepth 100000 in
theorem sequentref04_Check.calls (k : Nat) (A0_0 : Option Addr) (c0_0 : Nat) (l0_0 : List (S124)) (A0_1 : Option Addr) (c0_1 : Nat) (l0_1 : List (S92)) (r : Int) (w : World) (hr0_0 : Kd.C k124 w A0_0 l0_0.length l0_0) (hc0_0 : l0_0.length ≤ c0_0) (hr0_1 : Kd.C k92 w A0_1 l0_1.length l0_1) (hc0_1 : l0_1.length ≤ c0_1) (h : sequentref04_Check.f k l0_0 l0_1 = some r) :
 Calls Try.prog 87 #[.agg #[.slice A0_0 l0_0.length c0_0, .slice A0_1 l0_1.length c0_1]] w fun e w' => e = .returned (.int .i64 r) ∧ Below w.heap.size w w' := by
 have hu81 := Try.underlying81
 have hu25 := Try.underlying25
 have HR0_0 := Aside0.mk hr0_0
 have HC0_0 := Aside0.mk hc0_0
 clear hr0_0 hc0_0
 have HR0_1 := Aside0.mk hr0_1
 have HC0_1 := Aside0.mk hc0_1
 clear hr0_1 hc0_1
 have HB := Aside0.mk (Below.refl w.heap.size w)
 have H : (if (l0_0.length : Int) > 512 then (sequentref04_Check.j0 k true l0_0 l0_1) else (sequentref04_Check.j0 k (decide ((l0_1.length : Int) > 512)) l0_0 l0_1)) = some r := h
 clear h
 have HC2 := Aside0.mk H
 clear H
 go_enter Try.func87, Try.ntmps87
 go_upto_region 1 with (first | ((with_reducible refine gate_dst (N := 1) rfl ?_); (try (refine gate_guard (by rfl) ?_; dsimp only)); refine box_event ?hg (N := 1) ?hd (cs := #[.slice A0_0 l0_0.length c0_0, .slice A0_1 l0_1.length c0_1]) (t := 81) ?hr ?_; (case hd => rfl); (case hg => rfl); (case hr => first | (go_simp; done) | (go_simp; rfl)); intro gb818 hg w3 hbox hb; have n0_ := Aside0.mk (below_step bel_ hb); have n1_ := Aside0.mk (hbox); have n2_ := Aside0.mk ((by rw [hg]; exact (below_size bel_) : w.heap.size ≤ gb818)); have n3_ := Aside0.mk ((by rw [hg]; exact (below_size bel_) : w.heap.size ≤ gb818)); clear HB; have HB := n0_; have BK818 := n1_; have GW818 := n2_; have GE818 := n3_; clear n0_ n1_ n2_ n3_; clear hb hbox hg))
 (try simp only [Act.put, List.setIfInBounds_toArray, List.set_cons_zero, List.set_cons_succ])
 go_cut [16] (fun v16 wc => ∃ (kq : Nat) (x16_1 : Bool), v16 = .bool x16_1 ∧ Aside0 (sequentref04_Check.j0 kq x16_1 l0_0 l0_1 = some r) ∧ Aside0 (kq ≤ k) ∧ Aside0 (wc.heap[gb818]? = some (.cells #[(.slice A0_0 l0_0.length c0_0), (.slice A0_1 l0_1.length c0_1)] 81 (0, 0))) ∧ Aside0 (Below w.heap.size w wc))
 case first =>
  have H := HC2.out
  clear HC2
  by_cases c4 : (l0_0.length : Int) > 512
  ·rw [if_pos c4] at H
   have c4b0 : decide (512 < (l0_0.length : Int)) = true := decide_eq_true c4
   have c4b1 : decide (512 < l0_0.length) = true := decide_eq_true (by omega)
   clear c4
   (first | rw [c4b0] | (simp only [i64_w, i32_w]; rw [c4b0]) | skip)
   have H' := Aside0.mk H
   clear H
   have hcz5_0 : w3.cell? ⟨gb818, 0, none⟩ = some (.slice A0_0 l0_0.length c0_0) := (blk_cell BK818.out 0).trans rfl
   have hcz5_1 : w3.cell? ⟨gb818, 1, none⟩ = some (.slice A0_1 l0_1.length c0_1) := (blk_cell BK818.out 1).trans rfl
   have hfz5_0 := blk_frozen BK818.out 0
   have hfz5_1 := blk_frozen BK818.out 1
   go_wp2
   go_meet
   case rel => exact ⟨_, (true), (by first | rfl | (simp; done) | (simp [*]; done)), H', ⟨by first | omega | exact Nat.le_refl _⟩, ⟨bk_ BK818⟩, ⟨bel_⟩⟩
  ·rw [if_neg c4] at H
   have c4b0 : decide (512 < (l0_0.length : Int)) = false := decide_eq_false c4
   have c4b1 : decide (512 < l0_0.length) = false := decide_eq_false (by omega)
   clear c4
   (first | rw [c4b0] | (simp only [i64_w, i32_w]; rw [c4b0]) | skip)
   have H' := Aside0.mk H
   clear H
   have hcz6_0 : w3.cell? ⟨gb818, 0, none⟩ = some (.slice A0_0 l0_0.length c0_0) := (blk_cell BK818.out 0).trans rfl
   have hcz6_1 : w3.cell? ⟨gb818, 1, none⟩ = some (.slice A0_1 l0_1.length c0_1) := (blk_cell BK818.out 1).trans rfl
   have hfz6_0 := blk_frozen BK818.out 0
   have hfz6_1 := blk_frozen BK818.out 1
   go_wp2
   go_meet
   case rel => exact ⟨_, (decide ((l0_1.length : Int) > 512)), (by first | rfl | (simp; done) | (simp [*]; done)), H', ⟨by first | omega | exact Nat.le_refl _⟩, ⟨bk_ BK818⟩, ⟨bel_⟩⟩
 case rest =>
  clear HC2
  try clear p2
  try clear c4
  try clear c4b0
  try clear c4b1
  try clear hcz5_0
  try clear hcz5_1
  try clear hcz6_0
  try clear hcz6_1
  try clear hfz5_0
  try clear hfz5_1
  try clear hfz6_0
  try clear hfz6_1
  obtain ⟨kq, x16_1, rfl, HA, HJ1, BK818, HB⟩ := hcut
  cases kq with
  | zero => exact absurd HA.out (by simp [sequentref04_Check.j0])
  | succ kj1 =>
   have H := HA.out
   clear HA
   simp only [sequentref04_Check.j0] at H
   by_cases c7 : x16_1 = true
   ·subst c7
    have H1 : (some 4) = some r := by rw [if_pos rfl] at H; exact H
    clear H
    have H := H1
    clear H1
    obtain rfl := Option.some.inj H
    go_wp2
    go_ret
    exact ⟨by first | rfl | (simp [errW_none, errW_some] <;> rfl) | (simp [*, errW_none, errW_some] <;> rfl), bel_⟩
   ·replace c7 := Bool.eq_false_iff.mpr c7
    subst c7
    have H1 : (sequentref04_Check.l0 kj1 0 l0_0 l0_1) = some r := by rw [if_neg (show ¬ (false = true) by decide)] at H; exact H
    clear H
    have H := H1
    clear H1
    have H' := Aside0.mk H
    clear H
    go_wp2
    go_loopg [3] kj1 (fun kq v3 w' => ∃ (x3_2 : Int), v3 = .int .i64 x3_2 ∧ Aside0 (sequentref04_Check.l0 kq x3_2 l0_0 l0_1 = some r) ∧ Aside0 (kq ≤ kj1) ∧ Aside0 (w'.heap[gb818]? = some (.cells #[(.slice A0_0 l0_0.length c0_0), (.slice A0_1 l0_1.length c0_1)] 81 (0, 0))) ∧ Aside0 (Below w.heap.size w w'))
    case atStart => exact ⟨(0), (by first | rfl | (simp; done) | (simp [*]; done)), H', ⟨Nat.le_refl _⟩, ⟨bk_ BK818⟩, ⟨bel_⟩⟩
    case round =>
     clear H'
     try clear p2
     try clear c4
     try clear c4b0
     try clear c4b1
     try clear c7
     try clear hcz5_0
     try clear hcz5_1
     try clear hcz6_0
     try clear hcz6_1
     try clear hfz5_0
     try clear hfz5_1
     try clear hfz6_0
     try clear hfz6_1
     try clear p2
     obtain ⟨x3_2, rfl, HA, HK2, BK818, HB⟩ := hrel
     cases gk with
     | zero => exact absurd HA.out (by simp [sequentref04_Check.l0])
     | succ k2 =>
      have H := HA.out
      clear HA
      simp only [sequentref04_Check.l0] at H
      by_cases c8 : x3_2 < (l0_0.length : Int)
      ·rw [if_pos c8] at H
       have c8b0 : decide (x3_2 < (l0_0.length : Int)) = true := decide_eq_true c8
       clear c8
       have HC9 := Aside0.mk H
       clear H
       have hcz10_0 : wr.cell? ⟨gb818, 0, none⟩ = some (.slice A0_0 l0_0.length c0_0) := (blk_cell BK818.out 0).trans rfl
       have hcz10_1 : wr.cell? ⟨gb818, 1, none⟩ = some (.slice A0_1 l0_1.length c0_1) := (blk_cell BK818.out 1).trans rfl
       have hfz10_0 := blk_frozen BK818.out 0
       have hfz10_1 := blk_frozen BK818.out 1
       go_upto_region 6 with (fail)
       go_cut [49] (fun v49 wc => ∃ (kq : Nat) (x49_8 : Bool), v49 = .bool x49_8 ∧ Aside0 (sequentref04_Check.j2 kq x3_2 x49_8 l0_0 l0_1 = some r) ∧ Aside0 (kq ≤ k2) ∧ Aside0 (wc.heap[gb818]? = some (.cells #[(.slice A0_0 l0_0.length c0_0), (.slice A0_1 l0_1.length c0_1)] 81 (0, 0))) ∧ Aside0 (Below w.heap.size w wc))
       case first =>
        have H := HC9.out
        clear HC9
        by_cases c11 : 0 ≤ x3_2
        ·rw [if_pos c11] at H
         have c11b0 : decide (0 ≤ x3_2) = true := decide_eq_true c11
         clear c11
         (first | rw [c11b0] | (simp only [i64_w, i32_w]; rw [c11b0]) | skip)
         replace H := Option.bind_eq_some_iff.mp H
         obtain ⟨t820, A120, H⟩ := H
         replace H : (if t820 = true then (if ((rd_T124 l0_0 x3_2).f1) < 0 then (sequentref04_Check.j2 k2 x3_2 true l0_0 l0_1) else (sequentref04_Check.j2 k2 x3_2 (decide (((rd_T124 l0_0 x3_2).f1) > 8)) l0_0 l0_1)) else (sequentref04_Check.j2 k2 x3_2 true l0_0 l0_1)) = some r := H
         have A12 := Aside0.mk A120
         clear A120
         by_cases c13 : t820 = true
         ·subst c13
          have H1 : (if ((rd_T124 l0_0 x3_2).f1) < 0 then (sequentref04_Check.j2 k2 x3_2 true l0_0 l0_1) else (sequentref04_Check.j2 k2 x3_2 (decide (((rd_T124 l0_0 x3_2).f1) > 8)) l0_0 l0_1)) = some r := by rw [if_pos rfl] at H; exact H
          clear H
          have H := H1
          clear H1
          by_cases c14 : ((rd_T124 l0_0 x3_2).f1) < 0
          ·rw [if_pos c14] at H
           have c14b0 : decide (((rd_T124 l0_0 x3_2).f1) < 0) = true := decide_eq_true c14
           clear c14
           have H' := Aside0.mk H
           clear H
           have hcz15_0 : wr.cell? ⟨gb818, 0, none⟩ = some (.slice A0_0 l0_0.length c0_0) := (blk_cell BK818.out 0).trans rfl
           have hcz15_1 : wr.cell? ⟨gb818, 1, none⟩ = some (.slice A0_1 l0_1.length c0_1) := (blk_cell BK818.out 1).trans rfl
           have hfz15_0 := blk_frozen BK818.out 0
           have hfz15_1 := blk_frozen BK818.out 1
           have p819 : 0 ≤ (x3_2 : Int) := dq_
           have q819 : x3_2 < (l0_0.length : Int) := dq_
           obtain ⟨ad819, e819, hx819_0, hx819_1⟩ := at_T124 HR0_0.out x3_2 p819 q819
           cases e819
           replace hx819_0 := pw_cell_below HB.out hx819_0
           replace hx819_1 := pw_cell_below HB.out hx819_1
           replace p819 := eq_true p819
           replace q819 := eq_true q819
           go_wp2_with (first | ((with_reducible refine gate_callee (f := 88) rfl ?_); refine goesL_ (some 30) rfl rfl Try.func88 (by kernel_rfl) rfl #[.string ((rd_T124 l0_0 x3_2).f0)] rfl (by (try simp only [List.map_toArray, List.map_cons, List.map_nil]); first | done | rfl | (simp only [List.length_drop, List.length_take]; rfl)) ?_; (with_reducible refine (sequentref04_Operator.calls k2 ((rd_T124 l0_0 x3_2).f0) true _ A12.out).mono ?_); rintro e w' ⟨rfl, ⟨nd, rfl⟩⟩; refine ⟨_, rfl, ?_⟩; have p821 : 0 ≤ (x3_2 : Int) := dq_; have q821 : x3_2 < (l0_0.length : Int) := dq_; obtain ⟨ad821, e821, hx821_0, hx821_1⟩ := at_T124 HR0_0.out x3_2 p821 q821; obtain rfl : ad819 = ad821 := (by injection e821); replace hx821_0 := pw_cell_below HB.out hx821_0; replace hx821_1 := pw_cell_below HB.out hx821_1; replace p821 := eq_true p821; replace q821 := eq_true q821))
           go_meet
           case rel => exact ⟨_, (true), (by first | rfl | (simp; done) | (simp [*]; done)), H', ⟨by have := HJ1.out; have := HK2.out; first | omega | exact Nat.le_refl _⟩, ⟨bk_ BK818⟩, ⟨bel_⟩⟩
          ·rw [if_neg c14] at H
           have c14b0 : decide (((rd_T124 l0_0 x3_2).f1) < 0) = false := decide_eq_false c14
           clear c14
           have H' := Aside0.mk H
           clear H
           have hcz16_0 : wr.cell? ⟨gb818, 0, none⟩ = some (.slice A0_0 l0_0.length c0_0) := (blk_cell BK818.out 0).trans rfl
           have hcz16_1 : wr.cell? ⟨gb818, 1, none⟩ = some (.slice A0_1 l0_1.length c0_1) := (blk_cell BK818.out 1).trans rfl
           have hfz16_0 := blk_frozen BK818.out 0
           have hfz16_1 := blk_frozen BK818.out 1
           have p819 : 0 ≤ (x3_2 : Int) := dq_
           have q819 : x3_2 < (l0_0.length : Int) := dq_
           obtain ⟨ad819, e819, hx819_0, hx819_1⟩ := at_T124 HR0_0.out x3_2 p819 q819
           cases e819
           replace hx819_0 := pw_cell_below HB.out hx819_0
           replace hx819_1 := pw_cell_below HB.out hx819_1
           replace p819 := eq_true p819
           replace q819 := eq_true q819
           go_wp2_with (first | ((with_reducible refine gate_callee (f := 88) rfl ?_); refine goesL_ (some 30) rfl rfl Try.func88 (by kernel_rfl) rfl #[.string ((rd_T124 l0_0 x3_2).f0)] rfl (by (try simp only [List.map_toArray, List.map_cons, List.map_nil]); first | done | rfl | (simp only [List.length_drop, List.length_take]; rfl)) ?_; (with_reducible refine (sequentref04_Operator.calls k2 ((rd_T124 l0_0 x3_2).f0) true _ A12.out).mono ?_); rintro e w' ⟨rfl, ⟨nd, rfl⟩⟩; refine ⟨_, rfl, ?_⟩; have p821 : 0 ≤ (x3_2 : Int) := dq_; have q821 : x3_2 < (l0_0.length : Int) := dq_; obtain ⟨ad821, e821, hx821_0, hx821_1⟩ := at_T124 HR0_0.out x3_2 p821 q821; obtain rfl : ad819 = ad821 := (by injection e821); replace hx821_0 := pw_cell_below HB.out hx821_0; replace hx821_1 := pw_cell_below HB.out hx821_1; replace p821 := eq_true p821; replace q821 := eq_true q821; have p822 : 0 ≤ (x3_2 : Int) := dq_; have q822 : x3_2 < (l0_0.length : Int) := dq_; obtain ⟨ad822, e822, hx822_0, hx822_1⟩ := at_T124 HR0_0.out x3_2 p822 q822; obtain rfl : ad819 = ad822 := (by injection e822); replace hx822_0 := pw_cell_below HB.out hx822_0; replace hx822_1 := pw_cell_below HB.out hx822_1; replace p822 := eq_true p822; replace q822 := eq_true q822))
           go_meet
           case rel => exact ⟨_, (decide (((rd_T124 l0_0 x3_2).f1) > 8)), (by first | rfl | (simp; done) | (simp [*]; done)), H', ⟨by have := HJ1.out; have := HK2.out; first | omega | exact Nat.le_refl _⟩, ⟨bk_ BK818⟩, ⟨bel_⟩⟩
         ·replace c13 := Bool.eq_false_iff.mpr c13
          subst c13
          have H1 : (sequentref04_Check.j2 k2 x3_2 true l0_0 l0_1) = some r := by rw [if_neg (show ¬ (false = true) by decide)] at H; exact H
          clear H
          have H := H1
          clear H1
          have H' := Aside0.mk H
          clear H
          have hcz17_0 : wr.cell? ⟨gb818, 0, none⟩ = some (.slice A0_0 l0_0.length c0_0) := (blk_cell BK818.out 0).trans rfl
          have hcz17_1 : wr.cell? ⟨gb818, 1, none⟩ = some (.slice A0_1 l0_1.length c0_1) := (blk_cell BK818.out 1).trans rfl
          have hfz17_0 := blk_frozen BK818.out 0
          have hfz17_1 := blk_frozen BK818.out 1
          have p819 : 0 ≤ (x3_2 : Int) := dq_
          have q819 : x3_2 < (l0_0.length : Int) := dq_
          obtain ⟨ad819, e819, hx819_0, hx819_1⟩ := at_T124 HR0_0.out x3_2 p819 q819
          cases e819
          replace hx819_0 := pw_cell_below HB.out hx819_0
          replace hx819_1 := pw_cell_below HB.out hx819_1
          replace p819 := eq_true p819
          replace q819 := eq_true q819
          go_wp2_with (first | ((with_reducible refine gate_callee (f := 88) rfl ?_); refine goesL_ (some 30) rfl rfl Try.func88 (by kernel_rfl) rfl #[.string ((rd_T124 l0_0 x3_2).f0)] rfl (by (try simp only [List.map_toArray, List.map_cons, List.map_nil]); first | done | rfl | (simp only [List.length_drop, List.length_take]; rfl)) ?_; (with_reducible refine (sequentref04_Operator.calls k2 ((rd_T124 l0_0 x3_2).f0) false _ A12.out).mono ?_); rintro e w' ⟨rfl, ⟨nd, rfl⟩⟩; refine ⟨_, rfl, ?_⟩))
          go_meet
          case rel => exact ⟨_, (true), (by first | rfl | (simp; done) | (simp [*]; done)), H', ⟨by have := HJ1.out; have := HK2.out; first | omega | exact Nat.le_refl _⟩, ⟨bk_ BK818⟩, ⟨bel_⟩⟩
        ·rw [if_neg c11] at H
         exact absurd H (by simp)
       case rest =>
        clear HC9
        try clear c1
        try clear p2
        try clear c4
        try clear c4b0
        try clear c4b1
        try clear c7
        try clear c8
        try clear c8b0
        try clear p8
        try clear q8
        try clear hx8
        try clear c11
        try clear c11b0
        try clear c13
        try clear c14
        try clear c14b0
        try clear hcz10_0
        try clear hcz10_1
        try clear hcz15_0
        try clear hcz15_1
        try clear hcz16_0
        try clear hcz16_1
        try clear hcz17_0
        try clear hcz17_1
        try clear hcz5_0
        try clear hcz5_1
        try clear hcz6_0
        try clear hcz6_1
        try clear hfz10_0
        try clear hfz10_1
        try clear hfz15_0
        try clear hfz15_1
        try clear hfz16_0
        try clear hfz16_1
        try clear hfz17_0
        try clear hfz17_1
        try clear hfz5_0
        try clear hfz5_1
        try clear hfz6_0
        try clear hfz6_1
        try clear hx819_0
        try clear hx819_1
        try clear hx821_0
        try clear hx821_1
        try clear hx822_0
        try clear hx822_1
        try clear p2
        try clear p819
        try clear p821
        try clear p822
        try clear q819
        try clear q821
        try clear q822
        obtain ⟨kq, x49_8, rfl, HA, HJ8, BK818, HB⟩ := hcut
        cases kq with
        | zero => exact absurd HA.out (by simp [sequentref04_Check.j2])
        | succ kj8 =>
         have H := HA.out
         clear HA
         simp only [sequentref04_Check.j2] at H
         by_cases c18 : x49_8 = true
         ·subst c18
          have H1 : (some 8) = some r := by rw [if_pos rfl] at H; exact H
          clear H
          have H := H1
          clear H1
          obtain rfl := Option.some.inj H
          go_wp2
          go_ret
          exact ⟨by first | rfl | (simp [errW_none, errW_some] <;> rfl) | (simp [*, errW_none, errW_some] <;> rfl), bel_⟩
         ·replace c18 := Bool.eq_false_iff.mpr c18
          subst c18
          have H1 : (sequentref04_Check.l1 kj8 x3_2 0 l0_0 l0_1) = some r := by rw [if_neg (show ¬ (false = true) by decide)] at H; exact H
          clear H
          have H := H1
          clear H1
          have H' := Aside0.mk H
          clear H
          go_wp2
          go_loopg [4] kj8 (fun kq v4 w' => ∃ (x4_4 : Int), v4 = .int .i64 x4_4 ∧ Aside0 (sequentref04_Check.l1 kq x3_2 x4_4 l0_0 l0_1 = some r) ∧ Aside0 (kq ≤ kj8) ∧ Aside0 (w'.heap[gb818]? = some (.cells #[(.slice A0_0 l0_0.length c0_0), (.slice A0_1 l0_1.length c0_1)] 81 (0, 0))) ∧ Aside0 (Below w.heap.size w w'))
          case atStart => exact ⟨(0), (by first | rfl | (simp; done) | (simp [*]; done)), H', ⟨Nat.le_refl _⟩, ⟨bk_ BK818⟩, ⟨bel_⟩⟩
          case round =>
           clear H'
           try clear c1
           try clear p2
           try clear c4
           try clear c4b0
           try clear c4b1
           try clear c7
           try clear c8
           try clear c8b0
           try clear p8
           try clear q8
           try clear hx8
           try clear c11
           try clear c11b0
           try clear c13
           try clear c14
           try clear c14b0
           try clear c18
           try clear hcz10_0
           try clear hcz10_1
           try clear hcz15_0
           try clear hcz15_1
           try clear hcz16_0
           try clear hcz16_1
           try clear hcz17_0
           try clear hcz17_1
           try clear hcz5_0
           try clear hcz5_1
           try clear hcz6_0
           try clear hcz6_1
           try clear hfz10_0
           try clear hfz10_1
           try clear hfz15_0
           try clear hfz15_1
           try clear hfz16_0
           try clear hfz16_1
           try clear hfz17_0
           try clear hfz17_1
           try clear hfz5_0
           try clear hfz5_1
           try clear hfz6_0
           try clear hfz6_1
           try clear hx819_0
           try clear hx819_1
           try clear hx821_0
           try clear hx821_1
           try clear hx822_0
           try clear hx822_1
           try clear p2
           try clear p8
           try clear p819
           try clear p821
           try clear p822
           try clear q8
           try clear q819
           try clear q821
           try clear q822
           obtain ⟨x4_4, rfl, HA, HK4, BK818, HB⟩ := hrel
           cases gk with
           | zero => exact absurd HA.out (by simp [sequentref04_Check.l1])
           | succ k4 =>
            have H := HA.out
            clear HA
            simp only [sequentref04_Check.l1] at H
            by_cases c19 : x4_4 < x3_2
            ·rw [if_pos c19] at H
             have c19b0 : decide (x4_4 < x3_2) = true := decide_eq_true c19
             clear c19
             by_cases c20 : 0 ≤ x4_4
             ·rw [if_pos c20] at H
              have c20b0 : decide (0 ≤ x4_4) = true := decide_eq_true c20
              clear c20
              by_cases c21 : x4_4 < (l0_0.length : Int)
              ·rw [if_pos c21] at H
               have c21b0 : decide (x4_4 < (l0_0.length : Int)) = true := decide_eq_true c21
               clear c21
               by_cases c22 : 0 ≤ x3_2
               ·rw [if_pos c22] at H
                have c22b0 : decide (0 ≤ x3_2) = true := decide_eq_true c22
                clear c22
                by_cases c23 : x3_2 < (l0_0.length : Int)
                ·rw [if_pos c23] at H
                 have c23b0 : decide (x3_2 < (l0_0.length : Int)) = true := decide_eq_true c23
                 clear c23
                 by_cases c24 : ((rd_T124 l0_0 x4_4).f0).toList = ((rd_T124 l0_0 x3_2).f0).toList
                 ·rw [if_pos c24] at H
                  have c24b0 : (((rd_T124 l0_0 x4_4).f0).toList == ((rd_T124 l0_0 x3_2).f0).toList) = true := beq_iff_eq.mpr c24
                  have c24b1 : (((rd_T124 l0_0 x4_4).f0).toList != ((rd_T124 l0_0 x3_2).f0).toList) = false := bne_eq_false_iff_eq.mpr c24
                  clear c24
                  obtain rfl := Option.some.inj H
                  try go_wp2
                  have n0_ := Aside0.mk (blk_drew BK818.out)
                  have n1_ := Aside0.mk (below_drew1 HB.out)
                  clear BK818
                  clear HB
                  have BK818 := n0_
                  have HB := n1_
                  clear n0_ n1_
                  have p823 : 0 ≤ (x4_4 : Int) := dq_
                  have q823 : x4_4 < (l0_0.length : Int) := dq_
                  obtain ⟨ad823, e823, hx823_0, hx823_1⟩ := at_T124 HR0_0.out x4_4 p823 q823
                  have hw823_1 := hx823_1
                  have hw823_0 := hx823_0
                  cases e823
                  replace hx823_0 := pw_cell_below HB.out hx823_0
                  replace hx823_1 := pw_cell_below HB.out hx823_1
                  replace p823 := eq_true p823
                  replace q823 := eq_true q823
                  have p824 : 0 ≤ (x3_2 : Int) := dq_
                  have q824 : x3_2 < (l0_0.length : Int) := dq_
                  obtain ⟨ad824, e824, hx824_0, hx824_1⟩ := at_T124 HR0_0.out x3_2 p824 q824
                  have hw824_1 := hx824_1
                  have hw824_0 := hx824_0
                  obtain rfl : ad823 = ad824 := (by injection e824)
                  replace hx824_0 := pw_cell_below HB.out hx824_0
                  replace hx824_1 := pw_cell_below HB.out hx824_1
                  replace p824 := eq_true p824
                  replace q824 := eq_true q824
                  refine start_ (n := 13) (S := fun w' => w'.cell? ⟨gb818, 0, none⟩ = some (.slice (some ad823) l0_0.length c0_0) ∧ w'.cell? ⟨gb818, 1, none⟩ = some (.slice A0_1 l0_1.length c0_1) ∧ w'.cell? (ad823.add ((x4_4).toNat * 2)) = some (.string ((rd_T124 l0_0 x4_4).f0)) ∧ w'.cell? ⟨(ad823.add ((x4_4).toNat * 2)).block, (ad823.add ((x4_4).toNat * 2)).off + 1, none⟩ = some (.int .i64 ((rd_T124 l0_0 x4_4).f1)) ∧ w'.cell? (ad823.add ((x3_2).toNat * 2)) = some (.string ((rd_T124 l0_0 x3_2).f0)) ∧ w'.cell? ⟨(ad823.add ((x3_2).toNat * 2)).block, (ad823.add ((x3_2).toNat * 2)).off + 1, none⟩ = some (.int .i64 ((rd_T124 l0_0 x3_2).f1))) (ds := []) #[false, false, false, false, false, false, false, false, false, false, false, false, false] (by kernel_rfl) rfl rfl ⟨(blk_cell BK818.out 0).trans rfl, (blk_cell BK818.out 1).trans rfl, (pw_cell_below HB.out hw823_0), (pw_cell_below HB.out hw823_1), (pw_cell_below HB.out hw824_0), (pw_cell_below HB.out hw824_1)⟩ (fun hHeld => ?_); refine with_tabW sequentref04_Check.tab11 sequentref04_Check.bits11 (fun HT_ HW_ => ?_)
                  generalize wr.drew = w25 at BK818 HB hx823_0 hx823_1 hx824_0 hx824_1 hHeld ⊢
                  refine pure_ (i := 0) (N := some 55) (v := ?_) (a' := ?_) #[true, false, false, false, false, false, false, false, false, false, false, false, false] rfl rfl (any_of HT_.out (by kernel_rfl)) (fun _ _ _ h => h) (Or.inl ⟨by rfl, ?_⟩) ?_ ?_
                  rotate_left
                  ·intro w'
                   go_simp
                   with_reducible rfl
                  rotate_left
                  ·simp only [Act.put, List.setIfInBounds_toArray, List.set_cons_zero, List.set_cons_succ, i64_w, i32_w]
                   rfl
                  refine pure_ (i := 2) (N := some 57) (v := ?_) (a' := ?_) #[true, false, true, false, false, false, false, false, false, false, false, false, false] rfl rfl (any_of HT_.out (by kernel_rfl)) (fun _ _ _ h => h) (Or.inl ⟨by rfl, ?_⟩) ?_ ?_
                  rotate_left
                  ·intro w'
                   go_simp
                   with_reducible rfl
                  rotate_left
                  ·simp only [Act.put, List.setIfInBounds_toArray, List.set_cons_zero, List.set_cons_succ, i64_w, i32_w]
                   rfl
                  refine pure_ (i := 6) (N := some 61) (v := ?_) (a' := ?_) #[true, false, true, false, false, false, true, false, false, false, false, false, false] rfl rfl (any_of HT_.out (by kernel_rfl)) (fun _ _ _ h => h) (Or.inl ⟨by rfl, ?_⟩) ?_ ?_
                  rotate_left
                  ·intro w'
                   go_simp
                   with_reducible rfl
                  rotate_left
                  ·simp only [Act.put, List.setIfInBounds_toArray, List.set_cons_zero, List.set_cons_succ, i64_w, i32_w]
                   rfl
                  refine pure_ (i := 8) (N := some 63) (v := ?_) (a' := ?_) #[true, false, true, false, false, false, true, false, true, false, false, false, false] rfl rfl (any_of HT_.out (by kernel_rfl)) (fun _ _ _ h => h) (Or.inl ⟨by rfl, ?_⟩) ?_ ?_
                  rotate_left
                  ·intro w'
                   go_simp
                   with_reducible rfl
                  rotate_left
                  ·simp only [Act.put, List.setIfInBounds_toArray, List.set_cons_zero, List.set_cons_succ, i64_w, i32_w]
                   rfl
                  refine take_ (i := 1) (N := some 56) (v := ?_) (a' := ?_) #[true, true, true, false, false, false, true, false, true, false, false, false, false] rfl rfl (take_ofW HT_.out HW_.out (by kernel_rfl)) (fun _ _ _ h => h) (Or.inl ⟨by rfl, ?_⟩) hHeld ?_ ?_
                  rotate_left
                  ·rintro w' ⟨s0, s1, s2, s3, s4, s5⟩
                   go_simp
                   with_reducible rfl
                  rotate_left
                  ·simp only [Act.put, List.setIfInBounds_toArray, List.set_cons_zero, List.set_cons_succ, i64_w, i32_w]
                   rfl
                  refine pure_ (i := 3) (N := some 58) (v := ?_) (a' := ?_) #[true, true, true, true, false, false, true, false, true, false, false, false, false] rfl rfl (any_of HT_.out (by kernel_rfl)) (fun _ _ _ h => h) (Or.inl ⟨by rfl, ?_⟩) ?_ ?_
                  rotate_left
                  ·intro w'
                   go_simp
                   with_reducible rfl
                  rotate_left
                  ·simp only [Act.put, List.setIfInBounds_toArray, List.set_cons_zero, List.set_cons_succ, i64_w, i32_w]
                   rfl
                  refine pure_ (i := 4) (N := some 59) (v := ?_) (a' := ?_) #[true, true, true, true, true, false, true, false, true, false, false, false, false] rfl rfl (any_of HT_.out (by kernel_rfl)) (fun _ _ _ h => h) (Or.inl ⟨by rfl, ?_⟩) ?_ ?_
                  rotate_left
                  ·intro w'
                   go_simp
                   with_reducible rfl
                  rotate_left
                  ·simp only [Act.put, List.setIfInBounds_toArray, List.set_cons_zero, List.set_cons_succ, i64_w, i32_w]
                   rfl
                  refine take_ (i := 5) (N := some 60) (v := ?_) (a' := ?_) #[true, true, true, true, true, true, true, false, true, false, false, false, false] rfl rfl (take_ofW HT_.out HW_.out (by kernel_rfl)) (fun _ _ _ h => h) (Or.inl ⟨by rfl, ?_⟩) hHeld ?_ ?_
                  rotate_left
                  ·rintro w' ⟨s0, s1, s2, s3, s4, s5⟩
                   go_simp
                   with_reducible rfl
                  rotate_left
                  ·simp only [Act.put, List.setIfInBounds_toArray, List.set_cons_zero, List.set_cons_succ, i64_w, i32_w]
                   rfl
                  refine take_ (i := 7) (N := some 62) (v := ?_) (a' := ?_) #[true, true, true, true, true, true, true, true, true, false, false, false, false] rfl rfl (take_ofW HT_.out HW_.out (by kernel_rfl)) (fun _ _ _ h => h) (Or.inl ⟨by rfl, ?_⟩) hHeld ?_ ?_
                  rotate_left
                  ·rintro w' ⟨s0, s1, s2, s3, s4, s5⟩
                   go_simp
                   with_reducible rfl
                  rotate_left
                  ·simp only [Act.put, List.setIfInBounds_toArray, List.set_cons_zero, List.set_cons_succ, i64_w, i32_w]
                   rfl
                  refine pure_ (i := 9) (N := some 64) (v := ?_) (a' := ?_) #[true, true, true, true, true, true, true, true, true, true, false, false, false] rfl rfl (any_of HT_.out (by kernel_rfl)) (fun _ _ _ h => h) (Or.inl ⟨by rfl, ?_⟩) ?_ ?_
                  rotate_left
                  ·intro w'
                   go_simp
                   with_reducible rfl
                  rotate_left
                  ·simp only [Act.put, List.setIfInBounds_toArray, List.set_cons_zero, List.set_cons_succ, i64_w, i32_w]
                   rfl
                  refine pure_ (i := 10) (N := some 65) (v := ?_) (a' := ?_) #[true, true, true, true, true, true, true, true, true, true, true, false, false] rfl rfl (any_of HT_.out (by kernel_rfl)) (fun _ _ _ h => h) (Or.inl ⟨by rfl, ?_⟩) ?_ ?_
                  rotate_left
                  ·intro w'
                   go_simp
                   with_reducible rfl
                  rotate_left
                  ·simp only [Act.put, List.setIfInBounds_toArray, List.set_cons_zero, List.set_cons_succ, i64_w, i32_w]
                   rfl
                  refine take_ (i := 11) (N := some 66) (v := ?_) (a' := ?_) #[true, true, true, true, true, true, true, true, true, true, true, true, false] rfl rfl (take_ofW HT_.out HW_.out (by kernel_rfl)) (fun _ _ _ h => h) (Or.inl ⟨by rfl, ?_⟩) hHeld ?_ ?_
                  rotate_left
                  ·rintro w' ⟨s0, s1, s2, s3, s4, s5⟩
                   go_simp
                   with_reducible rfl
                  rotate_left
                  ·simp only [Act.put, List.setIfInBounds_toArray, List.set_cons_zero, List.set_cons_succ, i64_w, i32_w]
                   rfl
                  refine pure_ (i := 12) (N := some 67) (v := ?_) (a' := ?_) #[true, true, true, true, true, true, true, true, true, true, true, true, true] rfl rfl (any_of HT_.out (by kernel_rfl)) (fun _ _ _ h => h) (Or.inl ⟨by rfl, ?_⟩) ?_ ?_
                  rotate_left
                  ·intro w'
                   go_simp
                   with_reducible rfl
                  rotate_left
                  ·simp only [Act.put, List.setIfInBounds_toArray, List.set_cons_zero, List.set_cons_succ, i64_w, i32_w]
                   rfl
                  refine done_ (done_of HT_.out (by kernel_rfl)) ?_
                  try go_wp2
                  go_ret
                  exact ⟨by first | rfl | (simp [errW_none, errW_some] <;> rfl) | (simp [*, errW_none, errW_some] <;> rfl), bel_⟩
                 ·rw [if_neg c24] at H
                  have c24b0 : (((rd_T124 l0_0 x4_4).f0).toList == ((rd_T124 l0_0 x3_2).f0).toList) = false := beq_eq_false_iff_ne.mpr c24
                  have c24b1 : (((rd_T124 l0_0 x4_4).f0).toList != ((rd_T124 l0_0 x3_2).f0).toList) = true := bne_iff_ne.mpr c24
                  have H' := Aside0.mk H
                  clear H
                  try go_wp2
                  have n0_ := Aside0.mk (blk_drew BK818.out)
                  have n1_ := Aside0.mk (below_drew1 HB.out)
                  clear BK818
                  clear HB
                  have BK818 := n0_
                  have HB := n1_
                  clear n0_ n1_
                  have p823 : 0 ≤ (x4_4 : Int) := dq_
                  have q823 : x4_4 < (l0_0.length : Int) := dq_
                  obtain ⟨ad823, e823, hx823_0, hx823_1⟩ := at_T124 HR0_0.out x4_4 p823 q823
                  have hw823_1 := hx823_1
                  have hw823_0 := hx823_0
                  cases e823
                  replace hx823_0 := pw_cell_below HB.out hx823_0
                  replace hx823_1 := pw_cell_below HB.out hx823_1
                  replace p823 := eq_true p823
                  replace q823 := eq_true q823
                  have p824 : 0 ≤ (x3_2 : Int) := dq_
                  have q824 : x3_2 < (l0_0.length : Int) := dq_
                  obtain ⟨ad824, e824, hx824_0, hx824_1⟩ := at_T124 HR0_0.out x3_2 p824 q824
                  have hw824_1 := hx824_1
                  have hw824_0 := hx824_0
                  obtain rfl : ad823 = ad824 := (by injection e824)
                  replace hx824_0 := pw_cell_below HB.out hx824_0
                  replace hx824_1 := pw_cell_below HB.out hx824_1
                  replace p824 := eq_true p824
                  replace q824 := eq_true q824
                  refine start_ (n := 13) (S := fun w' => w'.cell? ⟨gb818, 0, none⟩ = some (.slice (some ad823) l0_0.length c0_0) ∧ w'.cell? ⟨gb818, 1, none⟩ = some (.slice A0_1 l0_1.length c0_1) ∧ w'.cell? (ad823.add ((x4_4).toNat * 2)) = some (.string ((rd_T124 l0_0 x4_4).f0)) ∧ w'.cell? ⟨(ad823.add ((x4_4).toNat * 2)).block, (ad823.add ((x4_4).toNat * 2)).off + 1, none⟩ = some (.int .i64 ((rd_T124 l0_0 x4_4).f1)) ∧ w'.cell? (ad823.add ((x3_2).toNat * 2)) = some (.string ((rd_T124 l0_0 x3_2).f0)) ∧ w'.cell? ⟨(ad823.add ((x3_2).toNat * 2)).block, (ad823.add ((x3_2).toNat * 2)).off + 1, none⟩ = some (.int .i64 ((rd_T124 l0_0 x3_2).f1))) (ds := []) #[false, false, false, false, false, false, false, false, false, false, false, false, false] (by kernel_rfl) rfl rfl ⟨(blk_cell BK818.out 0).trans rfl, (blk_cell BK818.out 1).trans rfl, (pw_cell_below HB.out hw823_0), (pw_cell_below HB.out hw823_1), (pw_cell_below HB.out hw824_0), (pw_cell_below HB.out hw824_1)⟩ (fun hHeld => ?_); refine with_tabW sequentref04_Check.tab11 sequentref04_Check.bits11 (fun HT_ HW_ => ?_)
                  generalize wr.drew = w26 at BK818 HB hx823_0 hx823_1 hx824_0 hx824_1 hHeld ⊢
                  refine pure_ (i := 0) (N := some 55) (v := ?_) (a' := ?_) #[true, false, false, false, false, false, false, false, false, false, false, false, false] rfl rfl (any_of HT_.out (by kernel_rfl)) (fun _ _ _ h => h) (Or.inl ⟨by rfl, ?_⟩) ?_ ?_
                  rotate_left
                  ·intro w'
                   go_simp
                   with_reducible rfl
                  rotate_left
                  ·simp only [Act.put, List.setIfInBounds_toArray, List.set_cons_zero, List.set_cons_succ, i64_w, i32_w]
                   rfl
                  refine pure_ (i := 2) (N := some 57) (v := ?_) (a' := ?_) #[true, false, true, false, false, false, false, false, false, false, false, false, false] rfl rfl (any_of HT_.out (by kernel_rfl)) (fun _ _ _ h => h) (Or.inl ⟨by rfl, ?_⟩) ?_ ?_
                  rotate_left
                  ·intro w'
                   go_simp
                   with_reducible rfl
                  rotate_left
                  ·simp only [Act.put, List.setIfInBounds_toArray, List.set_cons_zero, List.set_cons_succ, i64_w, i32_w]
                   rfl
                  refine pure_ (i := 6) (N := some 61) (v := ?_) (a' := ?_) #[true, false, true, false, false, false, true, false, false, false, false, false, false] rfl rfl (any_of HT_.out (by kernel_rfl)) (fun _ _ _ h => h) (Or.inl ⟨by rfl, ?_⟩) ?_ ?_
                  rotate_left
                  ·intro w'
                   go_simp
                   with_reducible rfl
                  rotate_left
                  ·simp only [Act.put, List.setIfInBounds_toArray, List.set_cons_zero, List.set_cons_succ, i64_w, i32_w]
                   rfl
                  refine pure_ (i := 8) (N := some 63) (v := ?_) (a' := ?_) #[true, false, true, false, false, false, true, false, true, false, false, false, false] rfl rfl (any_of HT_.out (by kernel_rfl)) (fun _ _ _ h => h) (Or.inl ⟨by rfl, ?_⟩) ?_ ?_
                  rotate_left
                  ·intro w'
                   go_simp
                   with_reducible rfl
                  rotate_left
                  ·simp only [Act.put, List.setIfInBounds_toArray, List.set_cons_zero, List.set_cons_succ, i64_w, i32_w]
                   rfl
                  refine take_ (i := 1) (N := some 56) (v := ?_) (a' := ?_) #[true, true, true, false, false, false, true, false, true, false, false, false, false] rfl rfl (take_ofW HT_.out HW_.out (by kernel_rfl)) (fun _ _ _ h => h) (Or.inl ⟨by rfl, ?_⟩) hHeld ?_ ?_
                  rotate_left
                  ·rintro w' ⟨s0, s1, s2, s3, s4, s5⟩
                   go_simp
                   with_reducible rfl
                  rotate_left
                  ·simp only [Act.put, List.setIfInBounds_toArray, List.set_cons_zero, List.set_cons_succ, i64_w, i32_w]
                   rfl
                  refine pure_ (i := 3) (N := some 58) (v := ?_) (a' := ?_) #[true, true, true, true, false, false, true, false, true, false, false, false, false] rfl rfl (any_of HT_.out (by kernel_rfl)) (fun _ _ _ h => h) (Or.inl ⟨by rfl, ?_⟩) ?_ ?_
                  rotate_left
                  ·intro w'
                   go_simp
                   with_reducible rfl
                  rotate_left
                  ·simp only [Act.put, List.setIfInBounds_toArray, List.set_cons_zero, List.set_cons_succ, i64_w, i32_w]
                   rfl
                  refine pure_ (i := 4) (N := some 59) (v := ?_) (a' := ?_) #[true, true, true, true, true, false, true, false, true, false, false, false, false] rfl rfl (any_of HT_.out (by kernel_rfl)) (fun _ _ _ h => h) (Or.inl ⟨by rfl, ?_⟩) ?_ ?_
                  rotate_left
                  ·intro w'
                   go_simp
                   with_reducible rfl
                  rotate_left
                  ·simp only [Act.put, List.setIfInBounds_toArray, List.set_cons_zero, List.set_cons_succ, i64_w, i32_w]
                   rfl
                  refine take_ (i := 5) (N := some 60) (v := ?_) (a' := ?_) #[true, true, true, true, true, true, true, false, true, false, false, false, false] rfl rfl (take_ofW HT_.out HW_.out (by kernel_rfl)) (fun _ _ _ h => h) (Or.inl ⟨by rfl, ?_⟩) hHeld ?_ ?_
                  rotate_left
                  ·rintro w' ⟨s0, s1, s2, s3, s4, s5⟩
                   go_simp
                   with_reducible rfl
                  rotate_left
                  ·simp only [Act.put, List.setIfInBounds_toArray, List.set_cons_zero, List.set_cons_succ, i64_w, i32_w]
                   rfl
                  refine take_ (i := 7) (N := some 62) (v := ?_) (a' := ?_) #[true, true, true, true, true, true, true, true, true, false, false, false, false] rfl rfl (take_ofW HT_.out HW_.out (by kernel_rfl)) (fun _ _ _ h => h) (Or.inl ⟨by rfl, ?_⟩) hHeld ?_ ?_
                  rotate_left
                  ·rintro w' ⟨s0, s1, s2, s3, s4, s5⟩
                   go_simp
                   with_reducible rfl
                  rotate_left
                  ·simp only [Act.put, List.setIfInBounds_toArray, List.set_cons_zero, List.set_cons_succ, i64_w, i32_w]
                   rfl
                  refine pure_ (i := 9) (N := some 64) (v := ?_) (a' := ?_) #[true, true, true, true, true, true, true, true, true, true, false, false, false] rfl rfl (any_of HT_.out (by kernel_rfl)) (fun _ _ _ h => h) (Or.inl ⟨by rfl, ?_⟩) ?_ ?_
                  rotate_left
                  ·intro w'
                   go_simp
                   with_reducible rfl
                  rotate_left
                  ·simp only [Act.put, List.setIfInBounds_toArray, List.set_cons_zero, List.set_cons_succ, i64_w, i32_w]
                   rfl
                  refine pure_ (i := 10) (N := some 65) (v := ?_) (a' := ?_) #[true, true, true, true, true, true, true, true, true, true, true, false, false] rfl rfl (any_of HT_.out (by kernel_rfl)) (fun _ _ _ h => h) (Or.inl ⟨by rfl, ?_⟩) ?_ ?_
                  rotate_left
                  ·intro w'
                   go_simp
                   with_reducible rfl
                  rotate_left
                  ·simp only [Act.put, List.setIfInBounds_toArray, List.set_cons_zero, List.set_cons_succ, i64_w, i32_w]
                   rfl
                  refine take_ (i := 11) (N := some 66) (v := ?_) (a' := ?_) #[true, true, true, true, true, true, true, true, true, true, true, true, false] rfl rfl (take_ofW HT_.out HW_.out (by kernel_rfl)) (fun _ _ _ h => h) (Or.inl ⟨by rfl, ?_⟩) hHeld ?_ ?_
                  rotate_left
                  ·rintro w' ⟨s0, s1, s2, s3, s4, s5⟩
                   go_simp
                   with_reducible rfl
                  rotate_left
                  ·simp only [Act.put, List.setIfInBounds_toArray, List.set_cons_zero, List.set_cons_succ, i64_w, i32_w]
                   rfl
                  refine pure_ (i := 12) (N := some 67) (v := ?_) (a' := ?_) #[true, true, true, true, true, true, true, true, true, true, true, true, true] rfl rfl (any_of HT_.out (by kernel_rfl)) (fun _ _ _ h => h) (Or.inl ⟨by rfl, ?_⟩) ?_ ?_
                  rotate_left
                  ·intro w'
                   go_simp
                   with_reducible rfl
                  rotate_left
                  ·simp only [Act.put, List.setIfInBounds_toArray, List.set_cons_zero, List.set_cons_succ, i64_w, i32_w]
                   rfl
                  refine done_ (done_of HT_.out (by kernel_rfl)) ?_
                  try go_wp2
                  go_roundg k4
                  case measure => have := HJ1.out; have := HK2.out; have := HJ8.out; have := HK4.out; omega
                  case rel => exact ⟨(wrap64 (x4_4 + 1)), (by first | rfl | (simp; done) | (simp [*]; done)), H', ⟨by have := HJ1.out; have := HK2.out; have := HJ8.out; have := HK4.out; omega⟩, ⟨bk_ BK818⟩, ⟨bel_⟩⟩
                ·rw [if_neg c23] at H
                 exact absurd H (by simp)
               ·rw [if_neg c22] at H
                exact absurd H (by simp)
              ·rw [if_neg c21] at H
               exact absurd H (by simp)
             ·rw [if_neg c20] at H
              exact absurd H (by simp)
            ·rw [if_neg c19] at H
             have c19b0 : decide (x4_4 < x3_2) = false := decide_eq_false c19
             clear c19
             have H' := Aside0.mk H
             clear H
             go_wp2
             go_roundg k4
             case measure => have := HJ1.out; have := HK2.out; have := HJ8.out; have := HK4.out; omega
             case rel => exact ⟨(wrap64 (x3_2 + 1)), (by first | rfl | (simp; done) | (simp [*]; done)), H', ⟨by have := HJ1.out; have := HK2.out; have := HJ8.out; have := HK4.out; omega⟩, ⟨bk_ BK818⟩, ⟨bel_⟩⟩
      ·rw [if_neg c8] at H
       have c8b0 : decide (x3_2 < (l0_0.length : Int)) = false := decide_eq_false c8
       clear c8
       have H' := Aside0.mk H
       clear H
       have hcz27_0 : wr.cell? ⟨gb818, 0, none⟩ = some (.slice A0_0 l0_0.length c0_0) := (blk_cell BK818.out 0).trans rfl
       have hcz27_1 : wr.cell? ⟨gb818, 1, none⟩ = some (.slice A0_1 l0_1.length c0_1) := (blk_cell BK818.out 1).trans rfl
       have hfz27_0 := blk_frozen BK818.out 0
       have hfz27_1 := blk_frozen BK818.out 1
       go_wp2
       go_loopg [5] k2 (fun kq v5 w' => ∃ (x5_3 : Int), v5 = .int .i64 x5_3 ∧ Aside0 (sequentref04_Check.l2 kq x5_3 l0_0 l0_1 = some r) ∧ Aside0 (kq ≤ k2) ∧ Aside0 (w'.heap[gb818]? = some (.cells #[(.slice A0_0 l0_0.length c0_0), (.slice A0_1 l0_1.length c0_1)] 81 (0, 0))) ∧ Aside0 (Below w.heap.size w w'))
       case atStart => exact ⟨(0), (by first | rfl | (simp; done) | (simp [*]; done)), H', ⟨Nat.le_refl _⟩, ⟨bk_ BK818⟩, ⟨bel_⟩⟩
       case round =>
        clear H'
        try clear c1
        try clear c2
        try clear p2
        try clear c4
        try clear c4b0
        try clear c4b1
        try clear p6
        try clear c7
        try clear c8
        try clear c8b0
        try clear p8
        try clear q8
        try clear hx8
        try clear c11
        try clear c11b0
        try clear c13
        try clear c14
        try clear c14b0
        try clear c18
        try clear c19
        try clear c19b0
        try clear c20
        try clear c20b0
        try clear c21
        try clear c21b0
        try clear c22
        try clear c22b0
        try clear c23
        try clear c23b0
        try clear c24
        try clear c24b0
        try clear c24b1
        try clear hcz10_0
        try clear hcz10_1
        try clear hcz15_0
        try clear hcz15_1
        try clear hcz16_0
        try clear hcz16_1
        try clear hcz17_0
        try clear hcz17_1
        try clear hcz27_0
        try clear hcz27_1
        try clear hcz5_0
        try clear hcz5_1
        try clear hcz6_0
        try clear hcz6_1
        try clear hfz10_0
        try clear hfz10_1
        try clear hfz15_0
        try clear hfz15_1
        try clear hfz16_0
        try clear hfz16_1
        try clear hfz17_0
        try clear hfz17_1
        try clear hfz27_0
        try clear hfz27_1
        try clear hfz5_0
        try clear hfz5_1
        try clear hfz6_0
        try clear hfz6_1
        try clear hx819_0
        try clear hx819_1
        try clear hx821_0
        try clear hx821_1
        try clear hx822_0
        try clear hx822_1
        try clear hx823_0
        try clear hx823_1
        try clear hx824_0
        try clear hx824_1
        try clear p2
        try clear p8
        try clear p819
        try clear p821
        try clear p822
        try clear p823
        try clear p824
        try clear q8
        try clear q819
        try clear q821
        try clear q822
        try clear q823
        try clear q824
        obtain ⟨x5_3, rfl, HA, HK3, BK818, HB⟩ := hrel
        cases gk with
        | zero => exact absurd HA.out (by simp [sequentref04_Check.l2])
        | succ k3 =>
         have H := HA.out
         clear HA
         simp only [sequentref04_Check.l2] at H
         by_cases c28 : x5_3 < (l0_1.length : Int)
         ·rw [if_pos c28] at H
          have c28b0 : decide (x5_3 < (l0_1.length : Int)) = true := decide_eq_true c28
          clear c28
          have HC29 := Aside0.mk H
          clear H
          have hcz30_0 : wr.cell? ⟨gb818, 0, none⟩ = some (.slice A0_0 l0_0.length c0_0) := (blk_cell BK818.out 0).trans rfl
          have hcz30_1 : wr.cell? ⟨gb818, 1, none⟩ = some (.slice A0_1 l0_1.length c0_1) := (blk_cell BK818.out 1).trans rfl
          have hfz30_0 := blk_frozen BK818.out 0
          have hfz30_1 := blk_frozen BK818.out 1
          go_upto_region 16 with (fail)
          go_cut [103] (fun v103 wc => ∃ (kq : Nat) (x103_28 : Bool), v103 = .bool x103_28 ∧ Aside0 (sequentref04_Check.j5 kq x5_3 x103_28 l0_0 l0_1 = some r) ∧ Aside0 (kq ≤ k3) ∧ Aside0 (wc.heap[gb818]? = some (.cells #[(.slice A0_0 l0_0.length c0_0), (.slice A0_1 l0_1.length c0_1)] 81 (0, 0))) ∧ Aside0 (Below w.heap.size w wc))
          case first =>
           have H := HC29.out
           clear HC29
           by_cases c31 : 0 ≤ x5_3
           ·rw [if_pos c31] at H
            have c31b0 : decide (0 ≤ x5_3) = true := decide_eq_true c31
            clear c31
            (first | rw [c31b0] | (simp only [i64_w, i32_w]; rw [c31b0]) | skip)
            replace H := Option.bind_eq_some_iff.mp H
            obtain ⟨t826, A320, H⟩ := H
            replace H : (if t826 = true then ((sequentref01_Valid.f k3 ((rd_T92 l0_1 x5_3).f1.f0) ((rd_T92 l0_1 x5_3).f1.f1) ((rd_T92 l0_1 x5_3).f1.f2)).bind fun t828 => (if t828 = true then ((sequentref04_OverType.f k3 l0_0 l0_1 ((rd_T92 l0_1 x5_3).f1.f0) ((rd_T92 l0_1 x5_3).f1.f1) ((rd_T92 l0_1 x5_3).f1.f2)).bind fun t830 => (sequentref04_Check.j5 k3 x5_3 (!t830) l0_0 l0_1)) else (sequentref04_Check.j5 k3 x5_3 true l0_0 l0_1))) else (sequentref04_Check.j5 k3 x5_3 true l0_0 l0_1)) = some r := H
            have A32 := Aside0.mk A320
            clear A320
            by_cases c33 : t826 = true
            ·subst c33
             have H1 : ((sequentref01_Valid.f k3 ((rd_T92 l0_1 x5_3).f1.f0) ((rd_T92 l0_1 x5_3).f1.f1) ((rd_T92 l0_1 x5_3).f1.f2)).bind fun t828 => (if t828 = true then ((sequentref04_OverType.f k3 l0_0 l0_1 ((rd_T92 l0_1 x5_3).f1.f0) ((rd_T92 l0_1 x5_3).f1.f1) ((rd_T92 l0_1 x5_3).f1.f2)).bind fun t830 => (sequentref04_Check.j5 k3 x5_3 (!t830) l0_0 l0_1)) else (sequentref04_Check.j5 k3 x5_3 true l0_0 l0_1))) = some r := by rw [if_pos rfl] at H; exact H
             clear H
             have H := H1
             clear H1
             replace H := Option.bind_eq_some_iff.mp H
             obtain ⟨t828, A340, H⟩ := H
             replace H : (if t828 = true then ((sequentref04_OverType.f k3 l0_0 l0_1 ((rd_T92 l0_1 x5_3).f1.f0) ((rd_T92 l0_1 x5_3).f1.f1) ((rd_T92 l0_1 x5_3).f1.f2)).bind fun t830 => (sequentref04_Check.j5 k3 x5_3 (!t830) l0_0 l0_1)) else (sequentref04_Check.j5 k3 x5_3 true l0_0 l0_1)) = some r := H
             have A34 := Aside0.mk A340
             clear A340
             by_cases c35 : t828 = true
             ·subst c35
              have H1 : ((sequentref04_OverType.f k3 l0_0 l0_1 ((rd_T92 l0_1 x5_3).f1.f0) ((rd_T92 l0_1 x5_3).f1.f1) ((rd_T92 l0_1 x5_3).f1.f2)).bind fun t830 => (sequentref04_Check.j5 k3 x5_3 (!t830) l0_0 l0_1)) = some r := by rw [if_pos rfl] at H; exact H
              clear H
              have H := H1
              clear H1
              replace H := Option.bind_eq_some_iff.mp H
              obtain ⟨t830, A360, H⟩ := H
              replace H : (sequentref04_Check.j5 k3 x5_3 (!t830) l0_0 l0_1) = some r := H
              have A36 := Aside0.mk A360
              clear A360
              have H' := Aside0.mk H
              clear H
              try go_wp2
              have n0_ := Aside0.mk (blk_drew BK818.out)
              have n1_ := Aside0.mk (below_drew1 HB.out)
              clear BK818
              clear HB
              have BK818 := n0_
              have HB := n1_
              clear n0_ n1_
              have p825 : 0 ≤ (x5_3 : Int) := dq_
              have q825 : x5_3 < (l0_1.length : Int) := dq_
              obtain ⟨ad825, A825_3, c825_3, e825, hx825_0, hx825_1, hx825_2, hx825_3, hl825_3, hi825_3⟩ := at_T92 HR0_1.out x5_3 p825 q825
              have hw825_3 := hx825_3
              have hw825_2 := hx825_2
              have hw825_1 := hx825_1
              have hw825_0 := hx825_0
              cases e825
              replace hx825_0 := pw_cell_below HB.out hx825_0
              replace hx825_1 := pw_cell_below HB.out hx825_1
              replace hx825_2 := pw_cell_below HB.out hx825_2
              replace hx825_3 := pw_cell_below HB.out hx825_3
              have HR825_3 := Aside0.mk hi825_3
              have HC825_3 := Aside0.mk hl825_3
              clear hi825_3 hl825_3
              replace p825 := eq_true p825
              replace q825 := eq_true q825
              have p827 : 0 ≤ (x5_3 : Int) := dq_
              have q827 : x5_3 < (l0_1.length : Int) := dq_
              obtain ⟨ad827, A827_3, c827_3, e827, hx827_0, hx827_1, hx827_2, hx827_3, hl827_3, hi827_3⟩ := at_T92 HR0_1.out x5_3 p827 q827
              have hw827_3 := hx827_3
              have hw827_2 := hx827_2
              have hw827_1 := hx827_1
              have hw827_0 := hx827_0
              obtain rfl : ad825 = ad827 := (by injection e827)
              replace hx827_0 := pw_cell_below HB.out hx827_0
              replace hx827_1 := pw_cell_below HB.out hx827_1
              replace hx827_2 := pw_cell_below HB.out hx827_2
              replace hx827_3 := pw_cell_below HB.out hx827_3
              have HR827_3 := Aside0.mk hi827_3
              have HC827_3 := Aside0.mk hl827_3
              clear hi827_3 hl827_3
              replace p827 := eq_true p827
              replace q827 := eq_true q827
              have ea_ := Option.some.inj (hx825_3.symm.trans hx827_3)
              injection ea_ with ea_ en_ ec_
              subst ea_
              subst ec_
              clear en_
              have p829 : 0 ≤ (x5_3 : Int) := dq_
              have q829 : x5_3 < (l0_1.length : Int) := dq_
              obtain ⟨ad829, A829_3, c829_3, e829, hx829_0, hx829_1, hx829_2, hx829_3, hl829_3, hi829_3⟩ := at_T92 HR0_1.out x5_3 p829 q829
              have hw829_3 := hx829_3
              have hw829_2 := hx829_2
              have hw829_1 := hx829_1
              have hw829_0 := hx829_0
              obtain rfl : ad825 = ad829 := (by injection e829)
              replace hx829_0 := pw_cell_below HB.out hx829_0
              replace hx829_1 := pw_cell_below HB.out hx829_1
              replace hx829_2 := pw_cell_below HB.out hx829_2
              replace hx829_3 := pw_cell_below HB.out hx829_3
              have HR829_3 := Aside0.mk hi829_3
              have HC829_3 := Aside0.mk hl829_3
              clear hi829_3 hl829_3
              replace p829 := eq_true p829
              replace q829 := eq_true q829
              refine start_ (n := 29) (S := fun w' => w'.cell? ⟨gb818, 0, none⟩ = some (.slice A0_0 l0_0.length c0_0) ∧ w'.cell? ⟨gb818, 1, none⟩ = some (.slice (some ad825) l0_1.length c0_1) ∧ w'.cell? (ad825.add ((x5_3).toNat * 4)) = some (.string ((rd_T92 l0_1 x5_3).f0)) ∧ w'.cell? ⟨(ad825.add ((x5_3).toNat * 4)).block, (ad825.add ((x5_3).toNat * 4)).off + 1, none⟩ = some (.bool ((rd_T92 l0_1 x5_3).f1.f0)) ∧ w'.cell? ⟨(ad825.add ((x5_3).toNat * 4)).block, (ad825.add ((x5_3).toNat * 4)).off + 2, none⟩ = some (.string ((rd_T92 l0_1 x5_3).f1.f1)) ∧ w'.cell? ⟨(ad825.add ((x5_3).toNat * 4)).block, (ad825.add ((x5_3).toNat * 4)).off + 3, none⟩ = some (.slice A825_3 ((rd_T92 l0_1 x5_3).f1.f2).length c825_3) ∧ w'.cell? (ad825.add ((x5_3).toNat * 4)) = some (.string ((rd_T92 l0_1 x5_3).f0)) ∧ w'.cell? ⟨(ad825.add ((x5_3).toNat * 4)).block, (ad825.add ((x5_3).toNat * 4)).off + 1, none⟩ = some (.bool ((rd_T92 l0_1 x5_3).f1.f0)) ∧ w'.cell? ⟨(ad825.add ((x5_3).toNat * 4)).block, (ad825.add ((x5_3).toNat * 4)).off + 2, none⟩ = some (.string ((rd_T92 l0_1 x5_3).f1.f1)) ∧ w'.cell? ⟨(ad825.add ((x5_3).toNat * 4)).block, (ad825.add ((x5_3).toNat * 4)).off + 3, none⟩ = some (.slice A825_3 ((rd_T92 l0_1 x5_3).f1.f2).length c825_3) ∧ w'.cell? (ad825.add ((x5_3).toNat * 4)) = some (.string ((rd_T92 l0_1 x5_3).f0)) ∧ w'.cell? ⟨(ad825.add ((x5_3).toNat * 4)).block, (ad825.add ((x5_3).toNat * 4)).off + 1, none⟩ = some (.bool ((rd_T92 l0_1 x5_3).f1.f0)) ∧ w'.cell? ⟨(ad825.add ((x5_3).toNat * 4)).block, (ad825.add ((x5_3).toNat * 4)).off + 2, none⟩ = some (.string ((rd_T92 l0_1 x5_3).f1.f1)) ∧ w'.cell? ⟨(ad825.add ((x5_3).toNat * 4)).block, (ad825.add ((x5_3).toNat * 4)).off + 3, none⟩ = some (.slice A829_3 ((rd_T92 l0_1 x5_3).f1.f2).length c829_3)) (ds := []) #[false, false, false, false, false, false, false, false, false, false, false, false, false, false, false, false, false, false, false, false, false, false, false, false, false, false, false, false, false] (by kernel_rfl) rfl rfl ⟨(blk_cell BK818.out 0).trans rfl, (blk_cell BK818.out 1).trans rfl, (pw_cell_below HB.out hw825_0), (pw_cell_below HB.out hw825_1), (pw_cell_below HB.out hw825_2), (pw_cell_below HB.out hw825_3), (pw_cell_below HB.out hw827_0), (pw_cell_below HB.out hw827_1), (pw_cell_below HB.out hw827_2), (pw_cell_below HB.out hw827_3), (pw_cell_below HB.out hw829_0), (pw_cell_below HB.out hw829_1), (pw_cell_below HB.out hw829_2), (pw_cell_below HB.out hw829_3)⟩ (fun hHeld => ?_); refine with_tabW sequentref04_Check.tab16 sequentref04_Check.bits16 (fun HT_ HW_ => ?_)
              generalize wr.drew = w37 at BK818 HB HR825_3 HR827_3 HR829_3 hx825_0 hx825_1 hx825_2 hx825_3 hx827_0 hx827_1 hx827_2 hx827_3 hx829_0 hx829_1 hx829_2 hx829_3 hHeld ⊢
              refine pure_ (i := 0) (N := some 75) (v := ?_) (a' := ?_) #[true, false, false, false, false, false, false, false, false, false, false, false, false, false, false, false, false, false, false, false, false, false, false, false, false, false, false, false, false] rfl rfl (any_of HT_.out (by kernel_rfl)) (fun _ _ _ h => h) (Or.inl ⟨by rfl, ?_⟩) ?_ ?_
              rotate_left
              ·intro w'
               go_simp
               with_reducible rfl
              rotate_left
              ·simp only [Act.put, List.setIfInBounds_toArray, List.set_cons_zero, List.set_cons_succ, i64_w, i32_w]
               rfl
              refine pure_ (i := 2) (N := some 77) (v := ?_) (a' := ?_) #[true, false, true, false, false, false, false, false, false, false, false, false, false, false, false, false, false, false, false, false, false, false, false, false, false, false, false, false, false] rfl rfl (any_of HT_.out (by kernel_rfl)) (fun _ _ _ h => h) (Or.inl ⟨by rfl, ?_⟩) ?_ ?_
              rotate_left
              ·intro w'
               go_simp
               with_reducible rfl
              rotate_left
              ·simp only [Act.put, List.setIfInBounds_toArray, List.set_cons_zero, List.set_cons_succ, i64_w, i32_w]
               rfl
              refine take_ (i := 1) (N := some 76) (v := ?_) (a' := ?_) #[true, true, true, false, false, false, false, false, false, false, false, false, false, false, false, false, false, false, false, false, false, false, false, false, false, false, false, false, false] rfl rfl (take_ofW HT_.out HW_.out (by kernel_rfl)) (fun _ _ _ h => h) (Or.inl ⟨by rfl, ?_⟩) hHeld ?_ ?_
              rotate_left
              ·rintro w' ⟨s0, s1, s2, s3, s4, s5, s6, s7, s8, s9, s10, s11, s12, s13⟩
               go_simp
               with_reducible rfl
              rotate_left
              ·simp only [Act.put, List.setIfInBounds_toArray, List.set_cons_zero, List.set_cons_succ, i64_w, i32_w]
               rfl
              refine pure_ (i := 3) (N := some 78) (v := ?_) (a' := ?_) #[true, true, true, true, false, false, false, false, false, false, false, false, false, false, false, false, false, false, false, false, false, false, false, false, false, false, false, false, false] rfl rfl (any_of HT_.out (by kernel_rfl)) (fun _ _ _ h => h) (Or.inl ⟨by rfl, ?_⟩) ?_ ?_
              rotate_left
              ·intro w'
               go_simp
               with_reducible rfl
              rotate_left
              ·simp only [Act.put, List.setIfInBounds_toArray, List.set_cons_zero, List.set_cons_succ, i64_w, i32_w]
               rfl
              refine pure_ (i := 4) (N := some 79) (v := ?_) (a' := ?_) #[true, true, true, true, true, false, false, false, false, false, false, false, false, false, false, false, false, false, false, false, false, false, false, false, false, false, false, false, false] rfl rfl (any_of HT_.out (by kernel_rfl)) (fun _ _ _ h => h) (Or.inl ⟨by rfl, ?_⟩) ?_ ?_
              rotate_left
              ·intro w'
               go_simp
               with_reducible rfl
              rotate_left
              ·simp only [Act.put, List.setIfInBounds_toArray, List.set_cons_zero, List.set_cons_succ, i64_w, i32_w]
               rfl
              refine take_ (i := 5) (N := some 80) (v := ?_) (a' := ?_) #[true, true, true, true, true, true, false, false, false, false, false, false, false, false, false, false, false, false, false, false, false, false, false, false, false, false, false, false, false] rfl rfl (take_ofW HT_.out HW_.out (by kernel_rfl)) (fun _ _ _ h => h) (Or.inl ⟨by rfl, ?_⟩) hHeld ?_ ?_
              rotate_left
              ·rintro w' ⟨s0, s1, s2, s3, s4, s5, s6, s7, s8, s9, s10, s11, s12, s13⟩
               go_simp
               with_reducible rfl
              rotate_left
              ·simp only [Act.put, List.setIfInBounds_toArray, List.set_cons_zero, List.set_cons_succ, i64_w, i32_w]
               rfl
              refine one_ (i := 6) (N := some 81) #[true, true, true, true, true, true, true, false, false, false, false, false, false, false, false, false, false, false, false, false, false, false, false, false, false, false, false, false, false] rfl rfl (one_of HT_.out (by kernel_rfl)) (by decide) (fun K hK => ?_)
              refine goes_ Try.func92 (by kernel_rfl) rfl #[.string ((rd_T92 l0_1 x5_3).f0)] (by rfl) rfl rfl (by (try simp only [List.map_toArray, List.map_cons, List.map_nil]); first | done | rfl | (simp only [List.length_drop, List.length_take]; rfl)) ?_
              with_reducible refine (sequentref02_Name.calls k3 ((rd_T92 l0_1 x5_3).f0) true _ A32.out).mono ?_
              rintro e w' ⟨rfl, ⟨nd, rfl⟩⟩
              refine ⟨_, rfl, ?_⟩
              refine hK.out _ _ ⟨(blk_cell BK818.out 0).trans rfl, (blk_cell BK818.out 1).trans rfl, (pw_cell_below HB.out hw825_0), (pw_cell_below HB.out hw825_1), (pw_cell_below HB.out hw825_2), (pw_cell_below HB.out hw825_3), (pw_cell_below HB.out hw827_0), (pw_cell_below HB.out hw827_1), (pw_cell_below HB.out hw827_2), (pw_cell_below HB.out hw827_3), (pw_cell_below HB.out hw829_0), (pw_cell_below HB.out hw829_1), (pw_cell_below HB.out hw829_2), (pw_cell_below HB.out hw829_3)⟩ (fun hHeld => ?_)
              clear hK K
              refine norm_ (a' := ?_) ?_ ?_
              rotate_left
              ·show Act.put _ (some 81) _ = _
               simp only [Act.put, List.setIfInBounds_toArray, List.set_cons_zero, List.set_cons_succ, i64_w, i32_w]
               rfl
              refine pure_ (i := 7) (N := some 82) (v := ?_) (a' := ?_) #[true, true, true, true, true, true, true, true, false, false, false, false, false, false, false, false, false, false, false, false, false, false, false, false, false, false, false, false, false] rfl rfl (any_of HT_.out (by kernel_rfl)) (fun _ _ _ h => h) (Or.inl ⟨by rfl, ?_⟩) ?_ ?_
              rotate_left
              ·intro w'
               go_simp
               with_reducible rfl
              rotate_left
              ·simp only [Act.put, List.setIfInBounds_toArray, List.set_cons_zero, List.set_cons_succ, i64_w, i32_w]
               rfl
              refine pure_ (i := 8) (N := some 83) (v := ?_) (a' := ?_) #[true, true, true, true, true, true, true, true, true, false, false, false, false, false, false, false, false, false, false, false, false, false, false, false, false, false, false, false, false] rfl rfl (any_of HT_.out (by kernel_rfl)) (fun _ _ _ h => h) (Or.inl ⟨by rfl, ?_⟩) ?_ ?_
              rotate_left
              ·intro w'
               go_simp
               with_reducible rfl
              rotate_left
              ·simp only [Act.put, List.setIfInBounds_toArray, List.set_cons_zero, List.set_cons_succ, i64_w, i32_w]
               rfl
              refine pure_ (i := 9) (N := some 84) (v := ?_) (a' := ?_) #[true, true, true, true, true, true, true, true, true, true, false, false, false, false, false, false, false, false, false, false, false, false, false, false, false, false, false, false, false] rfl rfl (any_of HT_.out (by kernel_rfl)) (fun _ _ _ h => h) (Or.inl ⟨by rfl, ?_⟩) ?_ ?_
              rotate_left
              ·intro w'
               go_simp
               with_reducible rfl
              rotate_left
              ·simp only [Act.put, List.setIfInBounds_toArray, List.set_cons_zero, List.set_cons_succ, i64_w, i32_w]
               rfl
              refine pure_ (i := 11) (N := some 86) (v := ?_) (a' := ?_) #[true, true, true, true, true, true, true, true, true, true, false, true, false, false, false, false, false, false, false, false, false, false, false, false, false, false, false, false, false] rfl rfl (any_of HT_.out (by kernel_rfl)) (fun _ _ _ h => h) (Or.inl ⟨by rfl, ?_⟩) ?_ ?_
              rotate_left
              ·intro w'
               go_simp
               with_reducible rfl
              rotate_left
              ·simp only [Act.put, List.setIfInBounds_toArray, List.set_cons_zero, List.set_cons_succ, i64_w, i32_w]
               rfl
              refine take_ (i := 10) (N := some 85) (v := ?_) (a' := ?_) #[true, true, true, true, true, true, true, true, true, true, true, true, false, false, false, false, false, false, false, false, false, false, false, false, false, false, false, false, false] rfl rfl (take_ofW HT_.out HW_.out (by kernel_rfl)) (fun _ _ _ h => h) (Or.inl ⟨by rfl, ?_⟩) hHeld ?_ ?_
              rotate_left
              ·rintro w' ⟨s0, s1, s2, s3, s4, s5, s6, s7, s8, s9, s10, s11, s12, s13⟩
               go_simp
               with_reducible rfl
              rotate_left
              ·simp only [Act.put, List.setIfInBounds_toArray, List.set_cons_zero, List.set_cons_succ, i64_w, i32_w]
               rfl
              refine pure_ (i := 12) (N := some 87) (v := ?_) (a' := ?_) #[true, true, true, true, true, true, true, true, true, true, true, true, true, false, false, false, false, false, false, false, false, false, false, false, false, false, false, false, false] rfl rfl (any_of HT_.out (by kernel_rfl)) (fun _ _ _ h => h) (Or.inl ⟨by rfl, ?_⟩) ?_ ?_
              rotate_left
              ·intro w'
               go_simp
               with_reducible rfl
              rotate_left
              ·simp only [Act.put, List.setIfInBounds_toArray, List.set_cons_zero, List.set_cons_succ, i64_w, i32_w]
               rfl
              refine pure_ (i := 13) (N := some 88) (v := ?_) (a' := ?_) #[true, true, true, true, true, true, true, true, true, true, true, true, true, true, false, false, false, false, false, false, false, false, false, false, false, false, false, false, false] rfl rfl (any_of HT_.out (by kernel_rfl)) (fun _ _ _ h => h) (Or.inl ⟨by rfl, ?_⟩) ?_ ?_
              rotate_left
              ·intro w'
               go_simp
               with_reducible rfl
              rotate_left
              ·simp only [Act.put, List.setIfInBounds_toArray, List.set_cons_zero, List.set_cons_succ, i64_w, i32_w]
               rfl
              refine take_ (i := 14) (N := some 89) (v := ?_) (a' := ?_) #[true, true, true, true, true, true, true, true, true, true, true, true, true, true, true, false, false, false, false, false, false, false, false, false, false, false, false, false, false] rfl rfl (take_ofW HT_.out HW_.out (by kernel_rfl)) (fun _ _ _ h => h) (Or.inl ⟨by rfl, ?_⟩) hHeld ?_ ?_
              rotate_left
              ·rintro w' ⟨s0, s1, s2, s3, s4, s5, s6, s7, s8, s9, s10, s11, s12, s13⟩
               go_simp
               with_reducible rfl
              rotate_left
              ·simp only [Act.put, List.setIfInBounds_toArray, List.set_cons_zero, List.set_cons_succ, i64_w, i32_w]
               rfl
              refine one_ (i := 15) (N := some 90) #[true, true, true, true, true, true, true, true, true, true, true, true, true, true, true, true, false, false, false, false, false, false, false, false, false, false, false, false, false] rfl rfl (one_of HT_.out (by kernel_rfl)) (by decide) (fun K hK => ?_)
              refine goes_ Try.func62 (by kernel_rfl) rfl #[.agg #[.bool ((rd_T92 l0_1 x5_3).f1.f0), .string ((rd_T92 l0_1 x5_3).f1.f1), .slice A825_3 ((rd_T92 l0_1 x5_3).f1.f2).length c825_3]] (by rfl) rfl rfl (by (try simp only [List.map_toArray, List.map_cons, List.map_nil]); first | done | rfl | (simp only [List.length_drop, List.length_take]; rfl)) ?_
              with_reducible refine (sequentref01_Valid.calls k3 ((rd_T92 l0_1 x5_3).f1.f0) ((rd_T92 l0_1 x5_3).f1.f1) _ _ ((rd_T92 l0_1 x5_3).f1.f2) true _ ?side1 ?side2 A34.out).mono ?_
              (case side1 => repeat (first | exact (Kd.C_below HR827_3.out bel_) | (with_reducible refine Kd.C_alloc ?_ _) | (with_reducible refine Kd.C_drewN ?_ _) | (with_reducible refine Kd.C_drew ?_)))
              (case side2 => exact HC827_3.out)
              rintro e w38 ⟨rfl, hb⟩
              refine ⟨_, rfl, ?_⟩
              have n0_ := Aside0.mk (blk_below (g := gb818) (o := .cells #[.slice A0_0 l0_0.length c0_0, .slice (some ad825) l0_1.length c0_1] 81 (0, 0)) (bk_ BK818) hb)
              have n1_ := Aside0.mk (below_step bel_ hb)
              clear BK818
              clear HB
              have BK818 := n0_
              have HB := n1_
              clear n0_ n1_
              (try clear hb)
              (try clear hb2)
              (try clear hk)
              (try clear hi)
              refine hK.out _ _ ⟨(blk_cell BK818.out 0).trans rfl, (blk_cell BK818.out 1).trans rfl, (pw_cell_below HB.out hw825_0), (pw_cell_below HB.out hw825_1), (pw_cell_below HB.out hw825_2), (pw_cell_below HB.out hw825_3), (pw_cell_below HB.out hw827_0), (pw_cell_below HB.out hw827_1), (pw_cell_below HB.out hw827_2), (pw_cell_below HB.out hw827_3), (pw_cell_below HB.out hw829_0), (pw_cell_below HB.out hw829_1), (pw_cell_below HB.out hw829_2), (pw_cell_below HB.out hw829_3)⟩ (fun hHeld => ?_)
              clear hK K
              refine norm_ (a' := ?_) ?_ ?_
              rotate_left
              ·show Act.put _ (some 90) _ = _
               simp only [Act.put, List.setIfInBounds_toArray, List.set_cons_zero, List.set_cons_succ, i64_w, i32_w]
               rfl
              refine pure_ (i := 16) (N := some 91) (v := ?_) (a' := ?_) #[true, true, true, true, true, true, true, true, true, true, true, true, true, true, true, true, true, false, false, false, false, false, false, false, false, false, false, false, false] rfl rfl (any_of HT_.out (by kernel_rfl)) (fun _ _ _ h => h) (Or.inl ⟨by rfl, ?_⟩) ?_ ?_
              rotate_left
              ·intro w'
               go_simp
               with_reducible rfl
              rotate_left
              ·simp only [Act.put, List.setIfInBounds_toArray, List.set_cons_zero, List.set_cons_succ, i64_w, i32_w]
               rfl
              refine pure_ (i := 17) (N := some 92) (v := ?_) (a' := ?_) #[true, true, true, true, true, true, true, true, true, true, true, true, true, true, true, true, true, true, false, false, false, false, false, false, false, false, false, false, false] rfl rfl (any_of HT_.out (by kernel_rfl)) (fun _ _ _ h => h) (Or.inl ⟨by rfl, ?_⟩) ?_ ?_
              rotate_left
              ·intro w'
               go_simp
               with_reducible rfl
              rotate_left
              ·simp only [Act.put, List.setIfInBounds_toArray, List.set_cons_zero, List.set_cons_succ, i64_w, i32_w]
               rfl
              refine pure_ (i := 18) (N := some 93) (v := ?_) (a' := ?_) #[true, true, true, true, true, true, true, true, true, true, true, true, true, true, true, true, true, true, true, false, false, false, false, false, false, false, false, false, false] rfl rfl (any_of HT_.out (by kernel_rfl)) (fun _ _ _ h => h) (Or.inl ⟨by rfl, ?_⟩) ?_ ?_
              rotate_left
              ·intro w'
               go_simp
               with_reducible rfl
              rotate_left
              ·simp only [Act.put, List.setIfInBounds_toArray, List.set_cons_zero, List.set_cons_succ, i64_w, i32_w]
               rfl
              refine pure_ (i := 20) (N := some 95) (v := ?_) (a' := ?_) #[true, true, true, true, true, true, true, true, true, true, true, true, true, true, true, true, true, true, true, false, true, false, false, false, false, false, false, false, false] rfl rfl (any_of HT_.out (by kernel_rfl)) (fun _ _ _ h => h) (Or.inl ⟨by rfl, ?_⟩) ?_ ?_
              rotate_left
              ·intro w'
               go_simp
               with_reducible rfl
              rotate_left
              ·simp only [Act.put, List.setIfInBounds_toArray, List.set_cons_zero, List.set_cons_succ, i64_w, i32_w]
               rfl
              refine pure_ (i := 22) (N := some 97) (v := ?_) (a' := ?_) #[true, true, true, true, true, true, true, true, true, true, true, true, true, true, true, true, true, true, true, false, true, false, true, false, false, false, false, false, false] rfl rfl (any_of HT_.out (by kernel_rfl)) (fun _ _ _ h => h) (Or.inl ⟨by rfl, ?_⟩) ?_ ?_
              rotate_left
              ·intro w'
               go_simp
               with_reducible rfl
              rotate_left
              ·simp only [Act.put, List.setIfInBounds_toArray, List.set_cons_zero, List.set_cons_succ, i64_w, i32_w]
               rfl
              refine take_ (i := 19) (N := some 94) (v := ?_) (a' := ?_) #[true, true, true, true, true, true, true, true, true, true, true, true, true, true, true, true, true, true, true, true, true, false, true, false, false, false, false, false, false] rfl rfl (take_ofW HT_.out HW_.out (by kernel_rfl)) (fun _ _ _ h => h) (Or.inl ⟨by rfl, ?_⟩) hHeld ?_ ?_
              rotate_left
              ·rintro w' ⟨s0, s1, s2, s3, s4, s5, s6, s7, s8, s9, s10, s11, s12, s13⟩
               go_simp
               with_reducible rfl
              rotate_left
              ·simp only [Act.put, List.setIfInBounds_toArray, List.set_cons_zero, List.set_cons_succ, i64_w, i32_w]
               rfl
              refine take_ (i := 21) (N := some 96) (v := ?_) (a' := ?_) #[true, true, true, true, true, true, true, true, true, true, true, true, true, true, true, true, true, true, true, true, true, true, true, false, false, false, false, false, false] rfl rfl (take_ofW HT_.out HW_.out (by kernel_rfl)) (fun _ _ _ h => h) (Or.inl ⟨by rfl, ?_⟩) hHeld ?_ ?_
              rotate_left
              ·rintro w' ⟨s0, s1, s2, s3, s4, s5, s6, s7, s8, s9, s10, s11, s12, s13⟩
               go_simp
               with_reducible rfl
              rotate_left
              ·simp only [Act.put, List.setIfInBounds_toArray, List.set_cons_zero, List.set_cons_succ, i64_w, i32_w]
               rfl
              refine pure_ (i := 23) (N := some 98) (v := ?_) (a' := ?_) #[true, true, true, true, true, true, true, true, true, true, true, true, true, true, true, true, true, true, true, true, true, true, true, true, false, false, false, false, false] rfl rfl (any_of HT_.out (by kernel_rfl)) (fun _ _ _ h => h) (Or.inl ⟨by rfl, ?_⟩) ?_ ?_
              rotate_left
              ·intro w'
               go_simp
               with_reducible rfl
              rotate_left
              ·simp only [Act.put, List.setIfInBounds_toArray, List.set_cons_zero, List.set_cons_succ, i64_w, i32_w]
               rfl
              refine pure_ (i := 24) (N := some 99) (v := ?_) (a' := ?_) #[true, true, true, true, true, true, true, true, true, true, true, true, true, true, true, true, true, true, true, true, true, true, true, true, true, false, false, false, false] rfl rfl (any_of HT_.out (by kernel_rfl)) (fun _ _ _ h => h) (Or.inl ⟨by rfl, ?_⟩) ?_ ?_
              rotate_left
              ·intro w'
               go_simp
               with_reducible rfl
              rotate_left
              ·simp only [Act.put, List.setIfInBounds_toArray, List.set_cons_zero, List.set_cons_succ, i64_w, i32_w]
               rfl
              refine take_ (i := 25) (N := some 100) (v := ?_) (a' := ?_) #[true, true, true, true, true, true, true, true, true, true, true, true, true, true, true, true, true, true, true, true, true, true, true, true, true, true, false, false, false] rfl rfl (take_ofW HT_.out HW_.out (by kernel_rfl)) (fun _ _ _ h => h) (Or.inl ⟨by rfl, ?_⟩) hHeld ?_ ?_
              rotate_left
              ·rintro w' ⟨s0, s1, s2, s3, s4, s5, s6, s7, s8, s9, s10, s11, s12, s13⟩
               go_simp
               with_reducible rfl
              rotate_left
              ·simp only [Act.put, List.setIfInBounds_toArray, List.set_cons_zero, List.set_cons_succ, i64_w, i32_w]
               rfl
              refine one_ (i := 26) (N := some 101) #[true, true, true, true, true, true, true, true, true, true, true, true, true, true, true, true, true, true, true, true, true, true, true, true, true, true, true, false, false] rfl rfl (one_of HT_.out (by kernel_rfl)) (by decide) (fun K hK => ?_)
              refine goes_ Try.func93 (by kernel_rfl) rfl #[.agg #[.slice A0_0 l0_0.length c0_0, .slice (some ad825) l0_1.length c0_1], .agg #[.bool ((rd_T92 l0_1 x5_3).f1.f0), .string ((rd_T92 l0_1 x5_3).f1.f1), .slice A825_3 ((rd_T92 l0_1 x5_3).f1.f2).length c825_3]] (by rfl) rfl rfl (by (try simp only [List.map_toArray, List.map_cons, List.map_nil]); first | done | rfl | (simp only [List.length_drop, List.length_take]; rfl)) ?_
              with_reducible refine (sequentref04_OverType.calls k3 _ _ l0_0 _ _ l0_1 ((rd_T92 l0_1 x5_3).f1.f0) ((rd_T92 l0_1 x5_3).f1.f1) _ _ ((rd_T92 l0_1 x5_3).f1.f2) t830 _ ?side1 ?side2 ?side3 ?side4 ?side5 ?side6 A36.out).mono ?_
              (case side1 => repeat (first | exact (Kd.C_below HR0_0.out HB.out) | (with_reducible refine Kd.C_alloc ?_ _) | (with_reducible refine Kd.C_drewN ?_ _) | (with_reducible refine Kd.C_drew ?_)))
              (case side2 => exact HC0_0.out)
              (case side3 => repeat (first | exact (Kd.C_below HR0_1.out HB.out) | (with_reducible refine Kd.C_alloc ?_ _) | (with_reducible refine Kd.C_drewN ?_ _) | (with_reducible refine Kd.C_drew ?_)))
              (case side4 => exact HC0_1.out)
              (case side5 => repeat (first | exact (Kd.C_below HR825_3.out HB.out) | (with_reducible refine Kd.C_alloc ?_ _) | (with_reducible refine Kd.C_drewN ?_ _) | (with_reducible refine Kd.C_drew ?_)))
              (case side6 => exact HC825_3.out)
              rintro e w39 ⟨rfl, hb⟩
              refine ⟨_, rfl, ?_⟩
              have n0_ := Aside0.mk (blk_below (g := gb818) (o := .cells #[.slice A0_0 l0_0.length c0_0, .slice (some ad825) l0_1.length c0_1] 81 (0, 0)) (bk_ BK818) hb)
              have n1_ := Aside0.mk (below_step bel_ hb)
              clear BK818
              clear HB
              have BK818 := n0_
              have HB := n1_
              clear n0_ n1_
              (try clear hb)
              (try clear hb2)
              (try clear hk)
              (try clear hi)
              refine hK.out _ _ ⟨(blk_cell BK818.out 0).trans rfl, (blk_cell BK818.out 1).trans rfl, (pw_cell_below HB.out hw825_0), (pw_cell_below HB.out hw825_1), (pw_cell_below HB.out hw825_2), (pw_cell_below HB.out hw825_3), (pw_cell_below HB.out hw827_0), (pw_cell_below HB.out hw827_1), (pw_cell_below HB.out hw827_2), (pw_cell_below HB.out hw827_3), (pw_cell_below HB.out hw829_0), (pw_cell_below HB.out hw829_1), (pw_cell_below HB.out hw829_2), (pw_cell_below HB.out hw829_3)⟩ (fun hHeld => ?_)
              clear hK K
              refine norm_ (a' := ?_) ?_ ?_
              rotate_left
              ·show Act.put _ (some 101) _ = _
               simp only [Act.put, List.setIfInBounds_toArray, List.set_cons_zero, List.set_cons_succ, i64_w, i32_w]
               rfl
              refine pure_ (i := 27) (N := some 102) (v := ?_) (a' := ?_) #[true, true, true, true, true, true, true, true, true, true, true, true, true, true, true, true, true, true, true, true, true, true, true, true, true, true, true, true, false] rfl rfl (any_of HT_.out (by kernel_rfl)) (fun _ _ _ h => h) (Or.inl ⟨by rfl, ?_⟩) ?_ ?_
              rotate_left
              ·intro w'
               go_simp
               with_reducible rfl
              rotate_left
              ·simp only [Act.put, List.setIfInBounds_toArray, List.set_cons_zero, List.set_cons_succ, i64_w, i32_w]
               rfl
              refine pure_ (i := 28) (N := some 103) (v := ?_) (a' := ?_) #[true, true, true, true, true, true, true, true, true, true, true, true, true, true, true, true, true, true, true, true, true, true, true, true, true, true, true, true, true] rfl rfl (any_of HT_.out (by kernel_rfl)) (fun _ _ _ h => h) (Or.inl ⟨by rfl, ?_⟩) ?_ ?_
              rotate_left
              ·intro w'
               go_simp
               with_reducible rfl
              rotate_left
              ·simp only [Act.put, List.setIfInBounds_toArray, List.set_cons_zero, List.set_cons_succ, i64_w, i32_w]
               rfl
              refine done_ (done_of HT_.out (by kernel_rfl)) ?_
              try go_wp2
              go_meet
              case rel => exact ⟨_, (!t830), (by first | rfl | (simp; done) | (simp [*]; done)), H', ⟨by have := HJ1.out; have := HK2.out; have := HK3.out; first | omega | exact Nat.le_refl _⟩, ⟨bk_ BK818⟩, ⟨bel_⟩⟩
             ·replace c35 := Bool.eq_false_iff.mpr c35
              subst c35
              have H1 : (sequentref04_Check.j5 k3 x5_3 true l0_0 l0_1) = some r := by rw [if_neg (show ¬ (false = true) by decide)] at H; exact H
              clear H
              have H := H1
              clear H1
              have H' := Aside0.mk H
              clear H
              try go_wp2
              have n0_ := Aside0.mk (blk_drew BK818.out)
              have n1_ := Aside0.mk (below_drew1 HB.out)
              clear BK818
              clear HB
              have BK818 := n0_
              have HB := n1_
              clear n0_ n1_
              have p825 : 0 ≤ (x5_3 : Int) := dq_
              have q825 : x5_3 < (l0_1.length : Int) := dq_
              obtain ⟨ad825, A825_3, c825_3, e825, hx825_0, hx825_1, hx825_2, hx825_3, hl825_3, hi825_3⟩ := at_T92 HR0_1.out x5_3 p825 q825
              have hw825_3 := hx825_3
              have hw825_2 := hx825_2
              have hw825_1 := hx825_1
              have hw825_0 := hx825_0
              cases e825
              replace hx825_0 := pw_cell_below HB.out hx825_0
              replace hx825_1 := pw_cell_below HB.out hx825_1
              replace hx825_2 := pw_cell_below HB.out hx825_2
              replace hx825_3 := pw_cell_below HB.out hx825_3
              have HR825_3 := Aside0.mk hi825_3
              have HC825_3 := Aside0.mk hl825_3
              clear hi825_3 hl825_3
              replace p825 := eq_true p825
              replace q825 := eq_true q825
              have p827 : 0 ≤ (x5_3 : Int) := dq_
              have q827 : x5_3 < (l0_1.length : Int) := dq_
              obtain ⟨ad827, A827_3, c827_3, e827, hx827_0, hx827_1, hx827_2, hx827_3, hl827_3, hi827_3⟩ := at_T92 HR0_1.out x5_3 p827 q827
              have hw827_3 := hx827_3
              have hw827_2 := hx827_2
              have hw827_1 := hx827_1
              have hw827_0 := hx827_0
              obtain rfl : ad825 = ad827 := (by injection e827)
              replace hx827_0 := pw_cell_below HB.out hx827_0
              replace hx827_1 := pw_cell_below HB.out hx827_1
              replace hx827_2 := pw_cell_below HB.out hx827_2
              replace hx827_3 := pw_cell_below HB.out hx827_3
              have HR827_3 := Aside0.mk hi827_3
              have HC827_3 := Aside0.mk hl827_3
              clear hi827_3 hl827_3
              replace p827 := eq_true p827
              replace q827 := eq_true q827
              have ea_ := Option.some.inj (hx825_3.symm.trans hx827_3)
              injection ea_ with ea_ en_ ec_
              subst ea_
              subst ec_
              clear en_
              refine start_ (n := 29) (S := fun w' => w'.cell? ⟨gb818, 0, none⟩ = some (.slice A0_0 l0_0.length c0_0) ∧ w'.cell? ⟨gb818, 1, none⟩ = some (.slice (some ad825) l0_1.length c0_1) ∧ w'.cell? (ad825.add ((x5_3).toNat * 4)) = some (.string ((rd_T92 l0_1 x5_3).f0)) ∧ w'.cell? ⟨(ad825.add ((x5_3).toNat * 4)).block, (ad825.add ((x5_3).toNat * 4)).off + 1, none⟩ = some (.bool ((rd_T92 l0_1 x5_3).f1.f0)) ∧ w'.cell? ⟨(ad825.add ((x5_3).toNat * 4)).block, (ad825.add ((x5_3).toNat * 4)).off + 2, none⟩ = some (.string ((rd_T92 l0_1 x5_3).f1.f1)) ∧ w'.cell? ⟨(ad825.add ((x5_3).toNat * 4)).block, (ad825.add ((x5_3).toNat * 4)).off + 3, none⟩ = some (.slice A825_3 ((rd_T92 l0_1 x5_3).f1.f2).length c825_3) ∧ w'.cell? (ad825.add ((x5_3).toNat * 4)) = some (.string ((rd_T92 l0_1 x5_3).f0)) ∧ w'.cell? ⟨(ad825.add ((x5_3).toNat * 4)).block, (ad825.add ((x5_3).toNat * 4)).off + 1, none⟩ = some (.bool ((rd_T92 l0_1 x5_3).f1.f0)) ∧ w'.cell? ⟨(ad825.add ((x5_3).toNat * 4)).block, (ad825.add ((x5_3).toNat * 4)).off + 2, none⟩ = some (.string ((rd_T92 l0_1 x5_3).f1.f1)) ∧ w'.cell? ⟨(ad825.add ((x5_3).toNat * 4)).block, (ad825.add ((x5_3).toNat * 4)).off + 3, none⟩ = some (.slice A825_3 ((rd_T92 l0_1 x5_3).f1.f2).length c825_3)) (ds := []) #[false, false, false, false, false, false, false, false, false, false, false, false, false, false, false, false, false, false, false, false, false, false, false, false, false, false, false, false, false] (by kernel_rfl) rfl rfl ⟨(blk_cell BK818.out 0).trans rfl, (blk_cell BK818.out 1).trans rfl, (pw_cell_below HB.out hw825_0), (pw_cell_below HB.out hw825_1), (pw_cell_below HB.out hw825_2), (pw_cell_below HB.out hw825_3), (pw_cell_below HB.out hw827_0), (pw_cell_below HB.out hw827_1), (pw_cell_below HB.out hw827_2), (pw_cell_below HB.out hw827_3)⟩ (fun hHeld => ?_); refine with_tabW sequentref04_Check.tab16 sequentref04_Check.bits16 (fun HT_ HW_ => ?_)
              generalize wr.drew = w40 at BK818 HB HR825_3 HR827_3 hx825_0 hx825_1 hx825_2 hx825_3 hx827_0 hx827_1 hx827_2 hx827_3 hHeld ⊢
              refine pure_ (i := 0) (N := some 75) (v := ?_) (a' := ?_) #[true, false, false, false, false, false, false, false, false, false, false, false, false, false, false, false, false, false, false, false, false, false, false, false, false, false, false, false, false] rfl rfl (any_of HT_.out (by kernel_rfl)) (fun _ _ _ h => h) (Or.inl ⟨by rfl, ?_⟩) ?_ ?_
              rotate_left
              ·intro w'
               go_simp
               with_reducible rfl
              rotate_left
              ·simp only [Act.put, List.setIfInBounds_toArray, List.set_cons_zero, List.set_cons_succ, i64_w, i32_w]
               rfl
              refine pure_ (i := 2) (N := some 77) (v := ?_) (a' := ?_) #[true, false, true, false, false, false, false, false, false, false, false, false, false, false, false, false, false, false, false, false, false, false, false, false, false, false, false, false, false] rfl rfl (any_of HT_.out (by kernel_rfl)) (fun _ _ _ h => h) (Or.inl ⟨by rfl, ?_⟩) ?_ ?_
              rotate_left
              ·intro w'
               go_simp
               with_reducible rfl
              rotate_left
              ·simp only [Act.put, List.setIfInBounds_toArray, List.set_cons_zero, List.set_cons_succ, i64_w, i32_w]
               rfl
              refine take_ (i := 1) (N := some 76) (v := ?_) (a' := ?_) #[true, true, true, false, false, false, false, false, false, false, false, false, false, false, false, false, false, false, false, false, false, false, false, false, false, false, false, false, false] rfl rfl (take_ofW HT_.out HW_.out (by kernel_rfl)) (fun _ _ _ h => h) (Or.inl ⟨by rfl, ?_⟩) hHeld ?_ ?_
              rotate_left
              ·rintro w' ⟨s0, s1, s2, s3, s4, s5, s6, s7, s8, s9⟩
               go_simp
               with_reducible rfl
              rotate_left
              ·simp only [Act.put, List.setIfInBounds_toArray, List.set_cons_zero, List.set_cons_succ, i64_w, i32_w]
               rfl
              refine pure_ (i := 3) (N := some 78) (v := ?_) (a' := ?_) #[true, true, true, true, false, false, false, false, false, false, false, false, false, false, false, false, false, false, false, false, false, false, false, false, false, false, false, false, false] rfl rfl (any_of HT_.out (by kernel_rfl)) (fun _ _ _ h => h) (Or.inl ⟨by rfl, ?_⟩) ?_ ?_
              rotate_left
              ·intro w'
               go_simp
               with_reducible rfl
              rotate_left
              ·simp only [Act.put, List.setIfInBounds_toArray, List.set_cons_zero, List.set_cons_succ, i64_w, i32_w]
               rfl
              refine pure_ (i := 4) (N := some 79) (v := ?_) (a' := ?_) #[true, true, true, true, true, false, false, false, false, false, false, false, false, false, false, false, false, false, false, false, false, false, false, false, false, false, false, false, false] rfl rfl (any_of HT_.out (by kernel_rfl)) (fun _ _ _ h => h) (Or.inl ⟨by rfl, ?_⟩) ?_ ?_
              rotate_left
              ·intro w'
               go_simp
               with_reducible rfl
              rotate_left
              ·simp only [Act.put, List.setIfInBounds_toArray, List.set_cons_zero, List.set_cons_succ, i64_w, i32_w]
               rfl
              refine take_ (i := 5) (N := some 80) (v := ?_) (a' := ?_) #[true, true, true, true, true, true, false, false, false, false, false, false, false, false, false, false, false, false, false, false, false, false, false, false, false, false, false, false, false] rfl rfl (take_ofW HT_.out HW_.out (by kernel_rfl)) (fun _ _ _ h => h) (Or.inl ⟨by rfl, ?_⟩) hHeld ?_ ?_
              rotate_left
              ·rintro w' ⟨s0, s1, s2, s3, s4, s5, s6, s7, s8, s9⟩
               go_simp
               with_reducible rfl
              rotate_left
              ·simp only [Act.put, List.setIfInBounds_toArray, List.set_cons_zero, List.set_cons_succ, i64_w, i32_w]
               rfl
              refine one_ (i := 6) (N := some 81) #[true, true, true, true, true, true, true, false, false, false, false, false, false, false, false, false, false, false, false, false, false, false, false, false, false, false, false, false, false] rfl rfl (one_of HT_.out (by kernel_rfl)) (by decide) (fun K hK => ?_)
              refine goes_ Try.func92 (by kernel_rfl) rfl #[.string ((rd_T92 l0_1 x5_3).f0)] (by rfl) rfl rfl (by (try simp only [List.map_toArray, List.map_cons, List.map_nil]); first | done | rfl | (simp only [List.length_drop, List.length_take]; rfl)) ?_
              with_reducible refine (sequentref02_Name.calls k3 ((rd_T92 l0_1 x5_3).f0) true _ A32.out).mono ?_
              rintro e w' ⟨rfl, ⟨nd, rfl⟩⟩
              refine ⟨_, rfl, ?_⟩
              refine hK.out _ _ ⟨(blk_cell BK818.out 0).trans rfl, (blk_cell BK818.out 1).trans rfl, (pw_cell_below HB.out hw825_0), (pw_cell_below HB.out hw825_1), (pw_cell_below HB.out hw825_2), (pw_cell_below HB.out hw825_3), (pw_cell_below HB.out hw827_0), (pw_cell_below HB.out hw827_1), (pw_cell_below HB.out hw827_2), (pw_cell_below HB.out hw827_3)⟩ (fun hHeld => ?_)
              clear hK K
              refine norm_ (a' := ?_) ?_ ?_
              rotate_left
              ·show Act.put _ (some 81) _ = _
               simp only [Act.put, List.setIfInBounds_toArray, List.set_cons_zero, List.set_cons_succ, i64_w, i32_w]
               rfl
              refine pure_ (i := 7) (N := some 82) (v := ?_) (a' := ?_) #[true, true, true, true, true, true, true, true, false, false, false, false, false, false, false, false, false, false, false, false, false, false, false, false, false, false, false, false, false] rfl rfl (any_of HT_.out (by kernel_rfl)) (fun _ _ _ h => h) (Or.inl ⟨by rfl, ?_⟩) ?_ ?_
              rotate_left
              ·intro w'
               go_simp
               with_reducible rfl
              rotate_left
              ·simp only [Act.put, List.setIfInBounds_toArray, List.set_cons_zero, List.set_cons_succ, i64_w, i32_w]
               rfl
              refine pure_ (i := 8) (N := some 83) (v := ?_) (a' := ?_) #[true, true, true, true, true, true, true, true, true, false, false, false, false, false, false, false, false, false, false, false, false, false, false, false, false, false, false, false, false] rfl rfl (any_of HT_.out (by kernel_rfl)) (fun _ _ _ h => h) (Or.inl ⟨by rfl, ?_⟩) ?_ ?_
              rotate_left
              ·intro w'
               go_simp
               with_reducible rfl
              rotate_left
              ·simp only [Act.put, List.setIfInBounds_toArray, List.set_cons_zero, List.set_cons_succ, i64_w, i32_w]
               rfl
              refine pure_ (i := 9) (N := some 84) (v := ?_) (a' := ?_) #[true, true, true, true, true, true, true, true, true, true, false, false, false, false, false, false, false, false, false, false, false, false, false, false, false, false, false, false, false] rfl rfl (any_of HT_.out (by kernel_rfl)) (fun _ _ _ h => h) (Or.inl ⟨by rfl, ?_⟩) ?_ ?_
              rotate_left
              ·intro w'
               go_simp
               with_reducible rfl
              rotate_left
              ·simp only [Act.put, List.setIfInBounds_toArray, List.set_cons_zero, List.set_cons_succ, i64_w, i32_w]
               rfl
              refine pure_ (i := 11) (N := some 86) (v := ?_) (a' := ?_) #[true, true, true, true, true, true, true, true, true, true, false, true, false, false, false, false, false, false, false, false, false, false, false, false, false, false, false, false, false] rfl rfl (any_of HT_.out (by kernel_rfl)) (fun _ _ _ h => h) (Or.inl ⟨by rfl, ?_⟩) ?_ ?_
              rotate_left
              ·intro w'
               go_simp
               with_reducible rfl
              rotate_left
              ·simp only [Act.put, List.setIfInBounds_toArray, List.set_cons_zero, List.set_cons_succ, i64_w, i32_w]
               rfl
              refine take_ (i := 10) (N := some 85) (v := ?_) (a' := ?_) #[true, true, true, true, true, true, true, true, true, true, true, true, false, false, false, false, false, false, false, false, false, false, false, false, false, false, false, false, false] rfl rfl (take_ofW HT_.out HW_.out (by kernel_rfl)) (fun _ _ _ h => h) (Or.inl ⟨by rfl, ?_⟩) hHeld ?_ ?_
              rotate_left
              ·rintro w' ⟨s0, s1, s2, s3, s4, s5, s6, s7, s8, s9⟩
               go_simp
               with_reducible rfl
              rotate_left
              ·simp only [Act.put, List.setIfInBounds_toArray, List.set_cons_zero, List.set_cons_succ, i64_w, i32_w]
               rfl
              refine pure_ (i := 12) (N := some 87) (v := ?_) (a' := ?_) #[true, true, true, true, true, true, true, true, true, true, true, true, true, false, false, false, false, false, false, false, false, false, false, false, false, false, false, false, false] rfl rfl (any_of HT_.out (by kernel_rfl)) (fun _ _ _ h => h) (Or.inl ⟨by rfl, ?_⟩) ?_ ?_
              rotate_left
              ·intro w'
               go_simp
               with_reducible rfl
              rotate_left
              ·simp only [Act.put, List.setIfInBounds_toArray, List.set_cons_zero, List.set_cons_succ, i64_w, i32_w]
               rfl
              refine pure_ (i := 13) (N := some 88) (v := ?_) (a' := ?_) #[true, true, true, true, true, true, true, true, true, true, true, true, true, true, false, false, false, false, false, false, false, false, false, false, false, false, false, false, false] rfl rfl (any_of HT_.out (by kernel_rfl)) (fun _ _ _ h => h) (Or.inl ⟨by rfl, ?_⟩) ?_ ?_
              rotate_left
              ·intro w'
               go_simp
               with_reducible rfl
              rotate_left
              ·simp only [Act.put, List.setIfInBounds_toArray, List.set_cons_zero, List.set_cons_succ, i64_w, i32_w]
               rfl
              refine take_ (i := 14) (N := some 89) (v := ?_) (a' := ?_) #[true, true, true, true, true, true, true, true, true, true, true, true, true, true, true, false, false, false, false, false, false, false, false, false, false, false, false, false, false] rfl rfl (take_ofW HT_.out HW_.out (by kernel_rfl)) (fun _ _ _ h => h) (Or.inl ⟨by rfl, ?_⟩) hHeld ?_ ?_
              rotate_left
              ·rintro w' ⟨s0, s1, s2, s3, s4, s5, s6, s7, s8, s9⟩
               go_simp
               with_reducible rfl
              rotate_left
              ·simp only [Act.put, List.setIfInBounds_toArray, List.set_cons_zero, List.set_cons_succ, i64_w, i32_w]
               rfl
              refine one_ (i := 15) (N := some 90) #[true, true, true, true, true, true, true, true, true, true, true, true, true, true, true, true, false, false, false, false, false, false, false, false, false, false, false, false, false] rfl rfl (one_of HT_.out (by kernel_rfl)) (by decide) (fun K hK => ?_)
              refine goes_ Try.func62 (by kernel_rfl) rfl #[.agg #[.bool ((rd_T92 l0_1 x5_3).f1.f0), .string ((rd_T92 l0_1 x5_3).f1.f1), .slice A825_3 ((rd_T92 l0_1 x5_3).f1.f2).length c825_3]] (by rfl) rfl rfl (by (try simp only [List.map_toArray, List.map_cons, List.map_nil]); first | done | rfl | (simp only [List.length_drop, List.length_take]; rfl)) ?_
              with_reducible refine (sequentref01_Valid.calls k3 ((rd_T92 l0_1 x5_3).f1.f0) ((rd_T92 l0_1 x5_3).f1.f1) _ _ ((rd_T92 l0_1 x5_3).f1.f2) false _ ?side1 ?side2 A34.out).mono ?_
              (case side1 => repeat (first | exact (Kd.C_below HR827_3.out bel_) | (with_reducible refine Kd.C_alloc ?_ _) | (with_reducible refine Kd.C_drewN ?_ _) | (with_reducible refine Kd.C_drew ?_)))
              (case side2 => exact HC827_3.out)
              rintro e w41 ⟨rfl, hb⟩
              refine ⟨_, rfl, ?_⟩
              have n0_ := Aside0.mk (blk_below (g := gb818) (o := .cells #[.slice A0_0 l0_0.length c0_0, .slice (some ad825) l0_1.length c0_1] 81 (0, 0)) (bk_ BK818) hb)
              have n1_ := Aside0.mk (below_step bel_ hb)
              clear BK818
              clear HB
              have BK818 := n0_
              have HB := n1_
              clear n0_ n1_
              (try clear hb)
              (try clear hb2)
              (try clear hk)
              (try clear hi)
              refine hK.out _ _ ⟨(blk_cell BK818.out 0).trans rfl, (blk_cell BK818.out 1).trans rfl, (pw_cell_below HB.out hw825_0), (pw_cell_below HB.out hw825_1), (pw_cell_below HB.out hw825_2), (pw_cell_below HB.out hw825_3), (pw_cell_below HB.out hw827_0), (pw_cell_below HB.out hw827_1), (pw_cell_below HB.out hw827_2), (pw_cell_below HB.out hw827_3)⟩ (fun hHeld => ?_)
              clear hK K
              refine norm_ (a' := ?_) ?_ ?_
              rotate_left
              ·show Act.put _ (some 90) _ = _
               simp only [Act.put, List.setIfInBounds_toArray, List.set_cons_zero, List.set_cons_succ, i64_w, i32_w]
               rfl
              refine pure_ (i := 16) (N := some 91) (v := ?_) (a' := ?_) #[true, true, true, true, true, true, true, true, true, true, true, true, true, true, true, true, true, false, false, false, false, false, false, false, false, false, false, false, false] rfl rfl (any_of HT_.out (by kernel_rfl)) (fun _ _ _ h => h) (Or.inl ⟨by rfl, ?_⟩) ?_ ?_
              rotate_left
              ·intro w'
               go_simp
               with_reducible rfl
              rotate_left
              ·simp only [Act.put, List.setIfInBounds_toArray, List.set_cons_zero, List.set_cons_succ, i64_w, i32_w]
               rfl
              refine pure_ (i := 17) (N := some 92) (v := ?_) (a' := ?_) #[true, true, true, true, true, true, true, true, true, true, true, true, true, true, true, true, true, true, false, false, false, false, false, false, false, false, false, false, false] rfl rfl (any_of HT_.out (by kernel_rfl)) (fun _ _ _ h => h) (Or.inl ⟨by rfl, ?_⟩) ?_ ?_
              rotate_left
              ·intro w'
               go_simp
               with_reducible rfl
              rotate_left
              ·simp only [Act.put, List.setIfInBounds_toArray, List.set_cons_zero, List.set_cons_succ, i64_w, i32_w]
               rfl
              refine pure_ (i := 18) (N := some 93) (v := ?_) (a' := ?_) #[true, true, true, true, true, true, true, true, true, true, true, true, true, true, true, true, true, true, true, false, false, false, false, false, false, false, false, false, false] rfl rfl (any_of HT_.out (by kernel_rfl)) (fun _ _ _ h => h) (Or.inl ⟨by rfl, ?_⟩) ?_ ?_
              rotate_left
              ·intro w'
               go_simp
               with_reducible rfl
              rotate_left
              ·simp only [Act.put, List.setIfInBounds_toArray, List.set_cons_zero, List.set_cons_succ, i64_w, i32_w]
               rfl
              refine pure_ (i := 19) (N := some 94) (v := undef) (a' := ?_) #[true, true, true, true, true, true, true, true, true, true, true, true, true, true, true, true, true, true, true, true, false, false, false, false, false, false, false, false, false] rfl rfl (any_of HT_.out (by kernel_rfl)) (fun _ _ _ h => h) (Or.inr ⟨by rfl, rfl⟩) ?_ ?_
              rotate_left
              ·simp only [Act.put, List.setIfInBounds_toArray, List.set_cons_zero, List.set_cons_succ, i64_w, i32_w]
               rfl
              refine pure_ (i := 20) (N := some 95) (v := undef) (a' := ?_) #[true, true, true, true, true, true, true, true, true, true, true, true, true, true, true, true, true, true, true, true, true, false, false, false, false, false, false, false, false] rfl rfl (any_of HT_.out (by kernel_rfl)) (fun _ _ _ h => h) (Or.inr ⟨by rfl, rfl⟩) ?_ ?_
              rotate_left
              ·simp only [Act.put, List.setIfInBounds_toArray, List.set_cons_zero, List.set_cons_succ, i64_w, i32_w]
               rfl
              refine pure_ (i := 21) (N := some 96) (v := undef) (a' := ?_) #[true, true, true, true, true, true, true, true, true, true, true, true, true, true, true, true, true, true, true, true, true, true, false, false, false, false, false, false, false] rfl rfl (any_of HT_.out (by kernel_rfl)) (fun _ _ _ h => h) (Or.inr ⟨by rfl, rfl⟩) ?_ ?_
              rotate_left
              ·simp only [Act.put, List.setIfInBounds_toArray, List.set_cons_zero, List.set_cons_succ, i64_w, i32_w]
               rfl
              refine pure_ (i := 22) (N := some 97) (v := undef) (a' := ?_) #[true, true, true, true, true, true, true, true, true, true, true, true, true, true, true, true, true, true, true, true, true, true, true, false, false, false, false, false, false] rfl rfl (any_of HT_.out (by kernel_rfl)) (fun _ _ _ h => h) (Or.inr ⟨by rfl, rfl⟩) ?_ ?_
              rotate_left
              ·simp only [Act.put, List.setIfInBounds_toArray, List.set_cons_zero, List.set_cons_succ, i64_w, i32_w]
               rfl
              refine pure_ (i := 23) (N := some 98) (v := undef) (a' := ?_) #[true, true, true, true, true, true, true, true, true, true, true, true, true, true, true, true, true, true, true, true, true, true, true, true, false, false, false, false, false] rfl rfl (any_of HT_.out (by kernel_rfl)) (fun _ _ _ h => h) (Or.inr ⟨by rfl, rfl⟩) ?_ ?_
              rotate_left
              ·simp only [Act.put, List.setIfInBounds_toArray, List.set_cons_zero, List.set_cons_succ, i64_w, i32_w]
               rfl
              refine pure_ (i := 24) (N := some 99) (v := undef) (a' := ?_) #[true, true, true, true, true, true, true, true, true, true, true, true, true, true, true, true, true, true, true, true, true, true, true, true, true, false, false, false, false] rfl rfl (any_of HT_.out (by kernel_rfl)) (fun _ _ _ h => h) (Or.inr ⟨by rfl, rfl⟩) ?_ ?_
              rotate_left
              ·simp only [Act.put, List.setIfInBounds_toArray, List.set_cons_zero, List.set_cons_succ, i64_w, i32_w]
               rfl
              refine pure_ (i := 25) (N := some 100) (v := undef) (a' := ?_) #[true, true, true, true, true, true, true, true, true, true, true, true, true, true, true, true, true, true, true, true, true, true, true, true, true, true, false, false, false] rfl rfl (any_of HT_.out (by kernel_rfl)) (fun _ _ _ h => h) (Or.inr ⟨by rfl, rfl⟩) ?_ ?_
              rotate_left
              ·simp only [Act.put, List.setIfInBounds_toArray, List.set_cons_zero, List.set_cons_succ, i64_w, i32_w]
               rfl
              refine pure_ (i := 26) (N := some 101) (v := undef) (a' := ?_) #[true, true, true, true, true, true, true, true, true, true, true, true, true, true, true, true, true, true, true, true, true, true, true, true, true, true, true, false, false] rfl rfl (any_of HT_.out (by kernel_rfl)) (fun _ _ _ h => h) (Or.inr ⟨by rfl, rfl⟩) ?_ ?_
              rotate_left
              ·simp only [Act.put, List.setIfInBounds_toArray, List.set_cons_zero, List.set_cons_succ, i64_w, i32_w]
               rfl
              refine pure_ (i := 27) (N := some 102) (v := undef) (a' := ?_) #[true, true, true, true, true, true, true, true, true, true, true, true, true, true, true, true, true, true, true, true, true, true, true, true, true, true, true, true, false] rfl rfl (any_of HT_.out (by kernel_rfl)) (fun _ _ _ h => h) (Or.inr ⟨by rfl, rfl⟩) ?_ ?_
              rotate_left
              ·simp only [Act.put, List.setIfInBounds_toArray, List.set_cons_zero, List.set_cons_succ, i64_w, i32_w]
               rfl
              refine pure_ (i := 28) (N := some 103) (v := ?_) (a' := ?_) #[true, true, true, true, true, true, true, true, true, true, true, true, true, true, true, true, true, true, true, true, true, true, true, true, true, true, true, true, true] rfl rfl (any_of HT_.out (by kernel_rfl)) (fun _ _ _ h => h) (Or.inl ⟨by rfl, ?_⟩) ?_ ?_
              rotate_left
              ·intro w'
               go_simp
               with_reducible rfl
              rotate_left
              ·simp only [Act.put, List.setIfInBounds_toArray, List.set_cons_zero, List.set_cons_succ, i64_w, i32_w]
               rfl
              refine done_ (done_of HT_.out (by kernel_rfl)) ?_
              try go_wp2
              go_meet
              case rel => exact ⟨_, (true), (by first | rfl | (simp; done) | (simp [*]; done)), H', ⟨by have := HJ1.out; have := HK2.out; have := HK3.out; first | omega | exact Nat.le_refl _⟩, ⟨bk_ BK818⟩, ⟨bel_⟩⟩
            ·replace c33 := Bool.eq_false_iff.mpr c33
             subst c33
             have H1 : (sequentref04_Check.j5 k3 x5_3 true l0_0 l0_1) = some r := by rw [if_neg (show ¬ (false = true) by decide)] at H; exact H
             clear H
             have H := H1
             clear H1
             have H' := Aside0.mk H
             clear H
             try go_wp2
             have n0_ := Aside0.mk (blk_drew BK818.out)
             have n1_ := Aside0.mk (below_drew1 HB.out)
             clear BK818
             clear HB
             have BK818 := n0_
             have HB := n1_
             clear n0_ n1_
             have p825 : 0 ≤ (x5_3 : Int) := dq_
             have q825 : x5_3 < (l0_1.length : Int) := dq_
             obtain ⟨ad825, A825_3, c825_3, e825, hx825_0, hx825_1, hx825_2, hx825_3, hl825_3, hi825_3⟩ := at_T92 HR0_1.out x5_3 p825 q825
             have hw825_3 := hx825_3
             have hw825_2 := hx825_2
             have hw825_1 := hx825_1
             have hw825_0 := hx825_0
             cases e825
             replace hx825_0 := pw_cell_below HB.out hx825_0
             replace hx825_1 := pw_cell_below HB.out hx825_1
             replace hx825_2 := pw_cell_below HB.out hx825_2
             replace hx825_3 := pw_cell_below HB.out hx825_3
             have HR825_3 := Aside0.mk hi825_3
             have HC825_3 := Aside0.mk hl825_3
             clear hi825_3 hl825_3
             replace p825 := eq_true p825
             replace q825 := eq_true q825
             refine start_ (n := 29) (S := fun w' => w'.cell? ⟨gb818, 0, none⟩ = some (.slice A0_0 l0_0.length c0_0) ∧ w'.cell? ⟨gb818, 1, none⟩ = some (.slice (some ad825) l0_1.length c0_1) ∧ w'.cell? (ad825.add ((x5_3).toNat * 4)) = some (.string ((rd_T92 l0_1 x5_3).f0)) ∧ w'.cell? ⟨(ad825.add ((x5_3).toNat * 4)).block, (ad825.add ((x5_3).toNat * 4)).off + 1, none⟩ = some (.bool ((rd_T92 l0_1 x5_3).f1.f0)) ∧ w'.cell? ⟨(ad825.add ((x5_3).toNat * 4)).block, (ad825.add ((x5_3).toNat * 4)).off + 2, none⟩ = some (.string ((rd_T92 l0_1 x5_3).f1.f1)) ∧ w'.cell? ⟨(ad825.add ((x5_3).toNat * 4)).block, (ad825.add ((x5_3).toNat * 4)).off + 3, none⟩ = some (.slice A825_3 ((rd_T92 l0_1 x5_3).f1.f2).length c825_3)) (ds := []) #[false, false, false, false, false, false, false, false, false, false, false, false, false, false, false, false, false, false, false, false, false, false, false, false, false, false, false, false, false] (by kernel_rfl) rfl rfl ⟨(blk_cell BK818.out 0).trans rfl, (blk_cell BK818.out 1).trans rfl, (pw_cell_below HB.out hw825_0), (pw_cell_below HB.out hw825_1), (pw_cell_below HB.out hw825_2), (pw_cell_below HB.out hw825_3)⟩ (fun hHeld => ?_); refine with_tabW sequentref04_Check.tab16 sequentref04_Check.bits16 (fun HT_ HW_ => ?_)
             generalize wr.drew = w42 at BK818 HB HR825_3 hx825_0 hx825_1 hx825_2 hx825_3 hHeld ⊢
             refine pure_ (i := 0) (N := some 75) (v := ?_) (a' := ?_) #[true, false, false, false, false, false, false, false, false, false, false, false, false, false, false, false, false, false, false, false, false, false, false, false, false, false, false, false, false] rfl rfl (any_of HT_.out (by kernel_rfl)) (fun _ _ _ h => h) (Or.inl ⟨by rfl, ?_⟩) ?_ ?_
             rotate_left
             ·intro w'
              go_simp
              with_reducible rfl
             rotate_left
             ·simp only [Act.put, List.setIfInBounds_toArray, List.set_cons_zero, List.set_cons_succ, i64_w, i32_w]
              rfl
             refine pure_ (i := 2) (N := some 77) (v := ?_) (a' := ?_) #[true, false, true, false, false, false, false, false, false, false, false, false, false, false, false, false, false, false, false, false, false, false, false, false, false, false, false, false, false] rfl rfl (any_of HT_.out (by kernel_rfl)) (fun _ _ _ h => h) (Or.inl ⟨by rfl, ?_⟩) ?_ ?_
             rotate_left
             ·intro w'
              go_simp
              with_reducible rfl
             rotate_left
             ·simp only [Act.put, List.setIfInBounds_toArray, List.set_cons_zero, List.set_cons_succ, i64_w, i32_w]
              rfl
             refine take_ (i := 1) (N := some 76) (v := ?_) (a' := ?_) #[true, true, true, false, false, false, false, false, false, false, false, false, false, false, false, false, false, false, false, false, false, false, false, false, false, false, false, false, false] rfl rfl (take_ofW HT_.out HW_.out (by kernel_rfl)) (fun _ _ _ h => h) (Or.inl ⟨by rfl, ?_⟩) hHeld ?_ ?_
             rotate_left
             ·rintro w' ⟨s0, s1, s2, s3, s4, s5⟩
              go_simp
              with_reducible rfl
             rotate_left
             ·simp only [Act.put, List.setIfInBounds_toArray, List.set_cons_zero, List.set_cons_succ, i64_w, i32_w]
              rfl
             refine pure_ (i := 3) (N := some 78) (v := ?_) (a' := ?_) #[true, true, true, true, false, false, false, false, false, false, false, false, false, false, false, false, false, false, false, false, false, false, false, false, false, false, false, false, false] rfl rfl (any_of HT_.out (by kernel_rfl)) (fun _ _ _ h => h) (Or.inl ⟨by rfl, ?_⟩) ?_ ?_
             rotate_left
             ·intro w'
              go_simp
              with_reducible rfl
             rotate_left
             ·simp only [Act.put, List.setIfInBounds_toArray, List.set_cons_zero, List.set_cons_succ, i64_w, i32_w]
              rfl
             refine pure_ (i := 4) (N := some 79) (v := ?_) (a' := ?_) #[true, true, true, true, true, false, false, false, false, false, false, false, false, false, false, false, false, false, false, false, false, false, false, false, false, false, false, false, false] rfl rfl (any_of HT_.out (by kernel_rfl)) (fun _ _ _ h => h) (Or.inl ⟨by rfl, ?_⟩) ?_ ?_
             rotate_left
             ·intro w'
              go_simp
              with_reducible rfl
             rotate_left
             ·simp only [Act.put, List.setIfInBounds_toArray, List.set_cons_zero, List.set_cons_succ, i64_w, i32_w]
              rfl
             refine take_ (i := 5) (N := some 80) (v := ?_) (a' := ?_) #[true, true, true, true, true, true, false, false, false, false, false, false, false, false, false, false, false, false, false, false, false, false, false, false, false, false, false, false, false] rfl rfl (take_ofW HT_.out HW_.out (by kernel_rfl)) (fun _ _ _ h => h) (Or.inl ⟨by rfl, ?_⟩) hHeld ?_ ?_
             rotate_left
             ·rintro w' ⟨s0, s1, s2, s3, s4, s5⟩
              go_simp
              with_reducible rfl
             rotate_left
             ·simp only [Act.put, List.setIfInBounds_toArray, List.set_cons_zero, List.set_cons_succ, i64_w, i32_w]
              rfl
             refine one_ (i := 6) (N := some 81) #[true, true, true, true, true, true, true, false, false, false, false, false, false, false, false, false, false, false, false, false, false, false, false, false, false, false, false, false, false] rfl rfl (one_of HT_.out (by kernel_rfl)) (by decide) (fun K hK => ?_)
             refine goes_ Try.func92 (by kernel_rfl) rfl #[.string ((rd_T92 l0_1 x5_3).f0)] (by rfl) rfl rfl (by (try simp only [List.map_toArray, List.map_cons, List.map_nil]); first | done | rfl | (simp only [List.length_drop, List.length_take]; rfl)) ?_
             with_reducible refine (sequentref02_Name.calls k3 ((rd_T92 l0_1 x5_3).f0) false _ A32.out).mono ?_
             rintro e w' ⟨rfl, ⟨nd, rfl⟩⟩
             refine ⟨_, rfl, ?_⟩
             refine hK.out _ _ ⟨(blk_cell BK818.out 0).trans rfl, (blk_cell BK818.out 1).trans rfl, (pw_cell_below HB.out hw825_0), (pw_cell_below HB.out hw825_1), (pw_cell_below HB.out hw825_2), (pw_cell_below HB.out hw825_3)⟩ (fun hHeld => ?_)
             clear hK K
             refine norm_ (a' := ?_) ?_ ?_
             rotate_left
             ·show Act.put _ (some 81) _ = _
              simp only [Act.put, List.setIfInBounds_toArray, List.set_cons_zero, List.set_cons_succ, i64_w, i32_w]
              rfl
             refine pure_ (i := 7) (N := some 82) (v := ?_) (a' := ?_) #[true, true, true, true, true, true, true, true, false, false, false, false, false, false, false, false, false, false, false, false, false, false, false, false, false, false, false, false, false] rfl rfl (any_of HT_.out (by kernel_rfl)) (fun _ _ _ h => h) (Or.inl ⟨by rfl, ?_⟩) ?_ ?_
             rotate_left
             ·intro w'
              go_simp
              with_reducible rfl
             rotate_left
             ·simp only [Act.put, List.setIfInBounds_toArray, List.set_cons_zero, List.set_cons_succ, i64_w, i32_w]
              rfl
             refine pure_ (i := 8) (N := some 83) (v := ?_) (a' := ?_) #[true, true, true, true, true, true, true, true, true, false, false, false, false, false, false, false, false, false, false, false, false, false, false, false, false, false, false, false, false] rfl rfl (any_of HT_.out (by kernel_rfl)) (fun _ _ _ h => h) (Or.inl ⟨by rfl, ?_⟩) ?_ ?_
             rotate_left
             ·intro w'
              go_simp
              with_reducible rfl
             rotate_left
             ·simp only [Act.put, List.setIfInBounds_toArray, List.set_cons_zero, List.set_cons_succ, i64_w, i32_w]
              rfl
             refine pure_ (i := 9) (N := some 84) (v := undef) (a' := ?_) #[true, true, true, true, true, true, true, true, true, true, false, false, false, false, false, false, false, false, false, false, false, false, false, false, false, false, false, false, false] rfl rfl (any_of HT_.out (by kernel_rfl)) (fun _ _ _ h => h) (Or.inr ⟨by rfl, rfl⟩) ?_ ?_
             rotate_left
             ·simp only [Act.put, List.setIfInBounds_toArray, List.set_cons_zero, List.set_cons_succ, i64_w, i32_w]
              rfl
             refine pure_ (i := 10) (N := some 85) (v := undef) (a' := ?_) #[true, true, true, true, true, true, true, true, true, true, true, false, false, false, false, false, false, false, false, false, false, false, false, false, false, false, false, false, false] rfl rfl (any_of HT_.out (by kernel_rfl)) (fun _ _ _ h => h) (Or.inr ⟨by rfl, rfl⟩) ?_ ?_
             rotate_left
             ·simp only [Act.put, List.setIfInBounds_toArray, List.set_cons_zero, List.set_cons_succ, i64_w, i32_w]
              rfl
             refine pure_ (i := 11) (N := some 86) (v := undef) (a' := ?_) #[true, true, true, true, true, true, true, true, true, true, true, true, false, false, false, false, false, false, false, false, false, false, false, false, false, false, false, false, false] rfl rfl (any_of HT_.out (by kernel_rfl)) (fun _ _ _ h => h) (Or.inr ⟨by rfl, rfl⟩) ?_ ?_
             rotate_left
             ·simp only [Act.put, List.setIfInBounds_toArray, List.set_cons_zero, List.set_cons_succ, i64_w, i32_w]
              rfl
             refine pure_ (i := 12) (N := some 87) (v := undef) (a' := ?_) #[true, true, true, true, true, true, true, true, true, true, true, true, true, false, false, false, false, false, false, false, false, false, false, false, false, false, false, false, false] rfl rfl (any_of HT_.out (by kernel_rfl)) (fun _ _ _ h => h) (Or.inr ⟨by rfl, rfl⟩) ?_ ?_
             rotate_left
             ·simp only [Act.put, List.setIfInBounds_toArray, List.set_cons_zero, List.set_cons_succ, i64_w, i32_w]
              rfl
             refine pure_ (i := 13) (N := some 88) (v := undef) (a' := ?_) #[true, true, true, true, true, true, true, true, true, true, true, true, true, true, false, false, false, false, false, false, false, false, false, false, false, false, false, false, false] rfl rfl (any_of HT_.out (by kernel_rfl)) (fun _ _ _ h => h) (Or.inr ⟨by rfl, rfl⟩) ?_ ?_
             rotate_left
             ·simp only [Act.put, List.setIfInBounds_toArray, List.set_cons_zero, List.set_cons_succ, i64_w, i32_w]
              rfl
             refine pure_ (i := 14) (N := some 89) (v := undef) (a' := ?_) #[true, true, true, true, true, true, true, true, true, true, true, true, true, true, true, false, false, false, false, false, false, false, false, false, false, false, false, false, false] rfl rfl (any_of HT_.out (by kernel_rfl)) (fun _ _ _ h => h) (Or.inr ⟨by rfl, rfl⟩) ?_ ?_
             rotate_left
             ·simp only [Act.put, List.setIfInBounds_toArray, List.set_cons_zero, List.set_cons_succ, i64_w, i32_w]
              rfl
             refine pure_ (i := 15) (N := some 90) (v := undef) (a' := ?_) #[true, true, true, true, true, true, true, true, true, true, true, true, true, true, true, true, false, false, false, false, false, false, false, false, false, false, false, false, false] rfl rfl (any_of HT_.out (by kernel_rfl)) (fun _ _ _ h => h) (Or.inr ⟨by rfl, rfl⟩) ?_ ?_
             rotate_left
             ·simp only [Act.put, List.setIfInBounds_toArray, List.set_cons_zero, List.set_cons_succ, i64_w, i32_w]
              rfl
             refine pure_ (i := 16) (N := some 91) (v := undef) (a' := ?_) #[true, true, true, true, true, true, true, true, true, true, true, true, true, true, true, true, true, false, false, false, false, false, false, false, false, false, false, false, false] rfl rfl (any_of HT_.out (by kernel_rfl)) (fun _ _ _ h => h) (Or.inr ⟨by rfl, rfl⟩) ?_ ?_
             rotate_left
             ·simp only [Act.put, List.setIfInBounds_toArray, List.set_cons_zero, List.set_cons_succ, i64_w, i32_w]
              rfl
             refine pure_ (i := 17) (N := some 92) (v := ?_) (a' := ?_) #[true, true, true, true, true, true, true, true, true, true, true, true, true, true, true, true, true, true, false, false, false, false, false, false, false, false, false, false, false] rfl rfl (any_of HT_.out (by kernel_rfl)) (fun _ _ _ h => h) (Or.inl ⟨by rfl, ?_⟩) ?_ ?_
             rotate_left
             ·intro w'
              go_simp
              with_reducible rfl
             rotate_left
             ·simp only [Act.put, List.setIfInBounds_toArray, List.set_cons_zero, List.set_cons_succ, i64_w, i32_w]
              rfl
             refine pure_ (i := 18) (N := some 93) (v := ?_) (a' := ?_) #[true, true, true, true, true, true, true, true, true, true, true, true, true, true, true, true, true, true, true, false, false, false, false, false, false, false, false, false, false] rfl rfl (any_of HT_.out (by kernel_rfl)) (fun _ _ _ h => h) (Or.inl ⟨by rfl, ?_⟩) ?_ ?_
             rotate_left
             ·intro w'
              go_simp
              with_reducible rfl
             rotate_left
             ·simp only [Act.put, List.setIfInBounds_toArray, List.set_cons_zero, List.set_cons_succ, i64_w, i32_w]
              rfl
             refine pure_ (i := 19) (N := some 94) (v := undef) (a' := ?_) #[true, true, true, true, true, true, true, true, true, true, true, true, true, true, true, true, true, true, true, true, false, false, false, false, false, false, false, false, false] rfl rfl (any_of HT_.out (by kernel_rfl)) (fun _ _ _ h => h) (Or.inr ⟨by rfl, rfl⟩) ?_ ?_
             rotate_left
             ·simp only [Act.put, List.setIfInBounds_toArray, List.set_cons_zero, List.set_cons_succ, i64_w, i32_w]
              rfl
             refine pure_ (i := 20) (N := some 95) (v := undef) (a' := ?_) #[true, true, true, true, true, true, true, true, true, true, true, true, true, true, true, true, true, true, true, true, true, false, false, false, false, false, false, false, false] rfl rfl (any_of HT_.out (by kernel_rfl)) (fun _ _ _ h => h) (Or.inr ⟨by rfl, rfl⟩) ?_ ?_
             rotate_left
             ·simp only [Act.put, List.setIfInBounds_toArray, List.set_cons_zero, List.set_cons_succ, i64_w, i32_w]
              rfl
             refine pure_ (i := 21) (N := some 96) (v := undef) (a' := ?_) #[true, true, true, true, true, true, true, true, true, true, true, true, true, true, true, true, true, true, true, true, true, true, false, false, false, false, false, false, false] rfl rfl (any_of HT_.out (by kernel_rfl)) (fun _ _ _ h => h) (Or.inr ⟨by rfl, rfl⟩) ?_ ?_
             rotate_left
             ·simp only [Act.put, List.setIfInBounds_toArray, List.set_cons_zero, List.set_cons_succ, i64_w, i32_w]
              rfl
             refine pure_ (i := 22) (N := some 97) (v := undef) (a' := ?_) #[true, true, true, true, true, true, true, true, true, true, true, true, true, true, true, true, true, true, true, true, true, true, true, false, false, false, false, false, false] rfl rfl (any_of HT_.out (by kernel_rfl)) (fun _ _ _ h => h) (Or.inr ⟨by rfl, rfl⟩) ?_ ?_
             rotate_left
             ·simp only [Act.put, List.setIfInBounds_toArray, List.set_cons_zero, List.set_cons_succ, i64_w, i32_w]
              rfl
             refine pure_ (i := 23) (N := some 98) (v := undef) (a' := ?_) #[true, true, true, true, true, true, true, true, true, true, true, true, true, true, true, true, true, true, true, true, true, true, true, true, false, false, false, false, false] rfl rfl (any_of HT_.out (by kernel_rfl)) (fun _ _ _ h => h) (Or.inr ⟨by rfl, rfl⟩) ?_ ?_
             rotate_left
             ·simp only [Act.put, List.setIfInBounds_toArray, List.set_cons_zero, List.set_cons_succ, i64_w, i32_w]
              rfl
             refine pure_ (i := 24) (N := some 99) (v := undef) (a' := ?_) #[true, true, true, true, true, true, true, true, true, true, true, true, true, true, true, true, true, true, true, true, true, true, true, true, true, false, false, false, false] rfl rfl (any_of HT_.out (by kernel_rfl)) (fun _ _ _ h => h) (Or.inr ⟨by rfl, rfl⟩) ?_ ?_
             rotate_left
             ·simp only [Act.put, List.setIfInBounds_toArray, List.set_cons_zero, List.set_cons_succ, i64_w, i32_w]
              rfl
             refine pure_ (i := 25) (N := some 100) (v := undef) (a' := ?_) #[true, true, true, true, true, true, true, true, true, true, true, true, true, true, true, true, true, true, true, true, true, true, true, true, true, true, false, false, false] rfl rfl (any_of HT_.out (by kernel_rfl)) (fun _ _ _ h => h) (Or.inr ⟨by rfl, rfl⟩) ?_ ?_
             rotate_left
             ·simp only [Act.put, List.setIfInBounds_toArray, List.set_cons_zero, List.set_cons_succ, i64_w, i32_w]
              rfl
             refine pure_ (i := 26) (N := some 101) (v := undef) (a' := ?_) #[true, true, true, true, true, true, true, true, true, true, true, true, true, true, true, true, true, true, true, true, true, true, true, true, true, true, true, false, false] rfl rfl (any_of HT_.out (by kernel_rfl)) (fun _ _ _ h => h) (Or.inr ⟨by rfl, rfl⟩) ?_ ?_
             rotate_left
             ·simp only [Act.put, List.setIfInBounds_toArray, List.set_cons_zero, List.set_cons_succ, i64_w, i32_w]
              rfl
             refine pure_ (i := 27) (N := some 102) (v := undef) (a' := ?_) #[true, true, true, true, true, true, true, true, true, true, true, true, true, true, true, true, true, true, true, true, true, true, true, true, true, true, true, true, false] rfl rfl (any_of HT_.out (by kernel_rfl)) (fun _ _ _ h => h) (Or.inr ⟨by rfl, rfl⟩) ?_ ?_
             rotate_left
             ·simp only [Act.put, List.setIfInBounds_toArray, List.set_cons_zero, List.set_cons_succ, i64_w, i32_w]
              rfl
             refine pure_ (i := 28) (N := some 103) (v := ?_) (a' := ?_) #[true, true, true, true, true, true, true, true, true, true, true, true, true, true, true, true, true, true, true, true, true, true, true, true, true, true, true, true, true] rfl rfl (any_of HT_.out (by kernel_rfl)) (fun _ _ _ h => h) (Or.inl ⟨by rfl, ?_⟩) ?_ ?_
             rotate_left
             ·intro w'
              go_simp
              with_reducible rfl
             rotate_left
             ·simp only [Act.put, List.setIfInBounds_toArray, List.set_cons_zero, List.set_cons_succ, i64_w, i32_w]
              rfl
             refine done_ (done_of HT_.out (by kernel_rfl)) ?_
             try go_wp2
             go_meet
             case rel => exact ⟨_, (true), (by first | rfl | (simp; done) | (simp [*]; done)), H', ⟨by have := HJ1.out; have := HK2.out; have := HK3.out; first | omega | exact Nat.le_refl _⟩, ⟨bk_ BK818⟩, ⟨bel_⟩⟩
           ·rw [if_neg c31] at H
            exact absurd H (by simp)
          case rest =>
           clear HC29
           try clear p2
           try clear c3
           try clear c6
           try clear c8
           try clear p8
           try clear q8
           try clear hx8
           try clear c9
           try clear c31
           try clear c33
           try clear c35
           try clear hx825_0
           try clear hx825_1
           try clear hx825_2
           try clear hx825_3
           try clear hx827_0
           try clear hx827_1
           try clear hx827_2
           try clear hx827_3
           try clear p825
           try clear p827
           try clear q825
           try clear q827
           obtain ⟨kq, x103_28, rfl, HA, HJ28, BK818, HB⟩ := hcut
           cases kq with
           | zero => exact absurd HA.out (by simp [sequentref04_Check.j5])
           | succ kj28 =>
            have H := HA.out
            clear HA
            simp only [sequentref04_Check.j5] at H
            by_cases c43 : x103_28 = true
            ·subst c43
             have H1 : (some 8) = some r := by rw [if_pos rfl] at H; exact H
             clear H
             have H := H1
             clear H1
             obtain rfl := Option.some.inj H
             go_wp2
             go_ret
             exact ⟨by first | rfl | (simp [errW_none, errW_some] <;> rfl) | (simp [*, errW_none, errW_some] <;> rfl), bel_⟩
            ·replace c43 := Bool.eq_false_iff.mpr c43
             subst c43
             have H1 : (sequentref04_Check.l3 kj28 x5_3 0 l0_0 l0_1) = some r := by rw [if_neg (show ¬ (false = true) by decide)] at H; exact H
             clear H
             have H := H1
             clear H1
             have H' := Aside0.mk H
             clear H
             go_wp2
             go_loopg [6] kj28 (fun kq v6 w' => ∃ (x6_5 : Int), v6 = .int .i64 x6_5 ∧ Aside0 (sequentref04_Check.l3 kq x5_3 x6_5 l0_0 l0_1 = some r) ∧ Aside0 (kq ≤ kj28) ∧ Aside0 (w'.heap[gb818]? = some (.cells #[(.slice A0_0 l0_0.length c0_0), (.slice A0_1 l0_1.length c0_1)] 81 (0, 0))) ∧ Aside0 (Below w.heap.size w w'))
             case atStart => exact ⟨(0), (by first | rfl | (simp; done) | (simp [*]; done)), H', ⟨Nat.le_refl _⟩, ⟨bk_ BK818⟩, ⟨bel_⟩⟩
             case round =>
              clear H'
              try clear p2
              try clear c3
              try clear c4
              try clear c6
              try clear c8
              try clear p8
              try clear q8
              try clear hx8
              try clear c9
              try clear c31
              try clear c33
              try clear c35
              try clear c43
              try clear hx825_0
              try clear hx825_1
              try clear hx825_2
              try clear hx825_3
              try clear hx827_0
              try clear hx827_1
              try clear hx827_2
              try clear hx827_3
              try clear p2
              try clear p8
              try clear p825
              try clear p827
              try clear q8
              try clear q825
              try clear q827
              obtain ⟨x6_5, rfl, HA, HK5, BK818, HB⟩ := hrel
              cases gk with
              | zero => exact absurd HA.out (by simp [sequentref04_Check.l3])
              | succ k5 =>
               have H := HA.out
               clear HA
               simp only [sequentref04_Check.l3] at H
               by_cases c44 : x6_5 < x5_3
               ·rw [if_pos c44] at H
                have c44b0 : decide (x6_5 < x5_3) = true := decide_eq_true c44
                clear c44
                by_cases c45 : 0 ≤ x6_5
                ·rw [if_pos c45] at H
                 have c45b0 : decide (0 ≤ x6_5) = true := decide_eq_true c45
                 clear c45
                 by_cases c46 : x6_5 < (l0_1.length : Int)
                 ·rw [if_pos c46] at H
                  have c46b0 : decide (x6_5 < (l0_1.length : Int)) = true := decide_eq_true c46
                  clear c46
                  by_cases c47 : 0 ≤ x5_3
                  ·rw [if_pos c47] at H
                   have c47b0 : decide (0 ≤ x5_3) = true := decide_eq_true c47
                   clear c47
                   by_cases c48 : x5_3 < (l0_1.length : Int)
                   ·rw [if_pos c48] at H
                    have c48b0 : decide (x5_3 < (l0_1.length : Int)) = true := decide_eq_true c48
                    clear c48
                    by_cases c49 : ((rd_T92 l0_1 x6_5).f0).toList = ((rd_T92 l0_1 x5_3).f0).toList
                    ·rw [if_pos c49] at H
                     have c49b0 : (((rd_T92 l0_1 x6_5).f0).toList == ((rd_T92 l0_1 x5_3).f0).toList) = true := beq_iff_eq.mpr c49
                     have c49b1 : (((rd_T92 l0_1 x6_5).f0).toList != ((rd_T92 l0_1 x5_3).f0).toList) = false := bne_eq_false_iff_eq.mpr c49
                     clear c49
                     obtain rfl := Option.some.inj H
                     try go_wp2
                     have n0_ := Aside0.mk (blk_drew BK818.out)
                     have n1_ := Aside0.mk (below_drew1 HB.out)
                     clear BK818
                     clear HB
                     have BK818 := n0_
                     have HB := n1_
                     clear n0_ n1_
                     have p831 : 0 ≤ (x6_5 : Int) := dq_
                     have q831 : x6_5 < (l0_1.length : Int) := dq_
                     obtain ⟨ad831, A831_3, c831_3, e831, hx831_0, hx831_1, hx831_2, hx831_3, hl831_3, hi831_3⟩ := at_T92 HR0_1.out x6_5 p831 q831
                     have hw831_3 := hx831_3
                     have hw831_2 := hx831_2
                     have hw831_1 := hx831_1
                     have hw831_0 := hx831_0
                     cases e831
                     replace hx831_0 := pw_cell_below HB.out hx831_0
                     replace hx831_1 := pw_cell_below HB.out hx831_1
                     replace hx831_2 := pw_cell_below HB.out hx831_2
                     replace hx831_3 := pw_cell_below HB.out hx831_3
                     have HR831_3 := Aside0.mk hi831_3
                     have HC831_3 := Aside0.mk hl831_3
                     clear hi831_3 hl831_3
                     replace p831 := eq_true p831
                     replace q831 := eq_true q831
                     have p832 : 0 ≤ (x5_3 : Int) := dq_
                     have q832 : x5_3 < (l0_1.length : Int) := dq_
                     obtain ⟨ad832, A832_3, c832_3, e832, hx832_0, hx832_1, hx832_2, hx832_3, hl832_3, hi832_3⟩ := at_T92 HR0_1.out x5_3 p832 q832
                     have hw832_3 := hx832_3
                     have hw832_2 := hx832_2
                     have hw832_1 := hx832_1
                     have hw832_0 := hx832_0
                     obtain rfl : ad831 = ad832 := (by injection e832)
                     replace hx832_0 := pw_cell_below HB.out hx832_0
                     replace hx832_1 := pw_cell_below HB.out hx832_1
                     replace hx832_2 := pw_cell_below HB.out hx832_2
                     replace hx832_3 := pw_cell_below HB.out hx832_3
                     have HR832_3 := Aside0.mk hi832_3
                     have HC832_3 := Aside0.mk hl832_3
                     clear hi832_3 hl832_3
                     replace p832 := eq_true p832
                     replace q832 := eq_true q832
                     refine start_ (n := 13) (S := fun w' => w'.cell? ⟨gb818, 0, none⟩ = some (.slice A0_0 l0_0.length c0_0) ∧ w'.cell? ⟨gb818, 1, none⟩ = some (.slice (some ad831) l0_1.length c0_1) ∧ w'.cell? (ad831.add ((x6_5).toNat * 4)) = some (.string ((rd_T92 l0_1 x6_5).f0)) ∧ w'.cell? ⟨(ad831.add ((x6_5).toNat * 4)).block, (ad831.add ((x6_5).toNat * 4)).off + 1, none⟩ = some (.bool ((rd_T92 l0_1 x6_5).f1.f0)) ∧ w'.cell? ⟨(ad831.add ((x6_5).toNat * 4)).block, (ad831.add ((x6_5).toNat * 4)).off + 2, none⟩ = some (.string ((rd_T92 l0_1 x6_5).f1.f1)) ∧ w'.cell? ⟨(ad831.add ((x6_5).toNat * 4)).block, (ad831.add ((x6_5).toNat * 4)).off + 3, none⟩ = some (.slice A831_3 ((rd_T92 l0_1 x6_5).f1.f2).length c831_3) ∧ w'.cell? (ad831.add ((x5_3).toNat * 4)) = some (.string ((rd_T92 l0_1 x5_3).f0)) ∧ w'.cell? ⟨(ad831.add ((x5_3).toNat * 4)).block, (ad831.add ((x5_3).toNat * 4)).off + 1, none⟩ = some (.bool ((rd_T92 l0_1 x5_3).f1.f0)) ∧ w'.cell? ⟨(ad831.add ((x5_3).toNat * 4)).block, (ad831.add ((x5_3).toNat * 4)).off + 2, none⟩ = some (.string ((rd_T92 l0_1 x5_3).f1.f1)) ∧ w'.cell? ⟨(ad831.add ((x5_3).toNat * 4)).block, (ad831.add ((x5_3).toNat * 4)).off + 3, none⟩ = some (.slice A832_3 ((rd_T92 l0_1 x5_3).f1.f2).length c832_3)) (ds := []) #[false, false, false, false, false, false, false, false, false, false, false, false, false] (by kernel_rfl) rfl rfl ⟨(blk_cell BK818.out 0).trans rfl, (blk_cell BK818.out 1).trans rfl, (pw_cell_below HB.out hw831_0), (pw_cell_below HB.out hw831_1), (pw_cell_below HB.out hw831_2), (pw_cell_below HB.out hw831_3), (pw_cell_below HB.out hw832_0), (pw_cell_below HB.out hw832_1), (pw_cell_below HB.out hw832_2), (pw_cell_below HB.out hw832_3)⟩ (fun hHeld => ?_); refine with_tabW sequentref04_Check.tab21 sequentref04_Check.bits21 (fun HT_ HW_ => ?_)
                     generalize wr.drew = w50 at BK818 HB HR831_3 HR832_3 hx831_0 hx831_1 hx831_2 hx831_3 hx832_0 hx832_1 hx832_2 hx832_3 hHeld ⊢
                     refine pure_ (i := 0) (N := some 109) (v := ?_) (a' := ?_) #[true, false, false, false, false, false, false, false, false, false, false, false, false] rfl rfl (any_of HT_.out (by kernel_rfl)) (fun _ _ _ h => h) (Or.inl ⟨by rfl, ?_⟩) ?_ ?_
                     rotate_left
                     ·intro w'
                      go_simp
                      with_reducible rfl
                     rotate_left
                     ·simp only [Act.put, List.setIfInBounds_toArray, List.set_cons_zero, List.set_cons_succ, i64_w, i32_w]
                      rfl
                     refine pure_ (i := 2) (N := some 111) (v := ?_) (a' := ?_) #[true, false, true, false, false, false, false, false, false, false, false, false, false] rfl rfl (any_of HT_.out (by kernel_rfl)) (fun _ _ _ h => h) (Or.inl ⟨by rfl, ?_⟩) ?_ ?_
                     rotate_left
                     ·intro w'
                      go_simp
                      with_reducible rfl
                     rotate_left
                     ·simp only [Act.put, List.setIfInBounds_toArray, List.set_cons_zero, List.set_cons_succ, i64_w, i32_w]
                      rfl
                     refine pure_ (i := 6) (N := some 115) (v := ?_) (a' := ?_) #[true, false, true, false, false, false, true, false, false, false, false, false, false] rfl rfl (any_of HT_.out (by kernel_rfl)) (fun _ _ _ h => h) (Or.inl ⟨by rfl, ?_⟩) ?_ ?_
                     rotate_left
                     ·intro w'
                      go_simp
                      with_reducible rfl
                     rotate_left
                     ·simp only [Act.put, List.setIfInBounds_toArray, List.set_cons_zero, List.set_cons_succ, i64_w, i32_w]
                      rfl
                     refine pure_ (i := 8) (N := some 117) (v := ?_) (a' := ?_) #[true, false, true, false, false, false, true, false, true, false, false, false, false] rfl rfl (any_of HT_.out (by kernel_rfl)) (fun _ _ _ h => h) (Or.inl ⟨by rfl, ?_⟩) ?_ ?_
                     rotate_left
                     ·intro w'
                      go_simp
                      with_reducible rfl
                     rotate_left
                     ·simp only [Act.put, List.setIfInBounds_toArray, List.set_cons_zero, List.set_cons_succ, i64_w, i32_w]
                      rfl
                     refine take_ (i := 1) (N := some 110) (v := ?_) (a' := ?_) #[true, true, true, false, false, false, true, false, true, false, false, false, false] rfl rfl (take_ofW HT_.out HW_.out (by kernel_rfl)) (fun _ _ _ h => h) (Or.inl ⟨by rfl, ?_⟩) hHeld ?_ ?_
                     rotate_left
                     ·rintro w' ⟨s0, s1, s2, s3, s4, s5, s6, s7, s8, s9⟩
                      go_simp
                      with_reducible rfl
                     rotate_left
                     ·simp only [Act.put, List.setIfInBounds_toArray, List.set_cons_zero, List.set_cons_succ, i64_w, i32_w]
                      rfl
                     refine pure_ (i := 3) (N := some 112) (v := ?_) (a' := ?_) #[true, true, true, true, false, false, true, false, true, false, false, false, false] rfl rfl (any_of HT_.out (by kernel_rfl)) (fun _ _ _ h => h) (Or.inl ⟨by rfl, ?_⟩) ?_ ?_
                     rotate_left
                     ·intro w'
                      go_simp
                      with_reducible rfl
                     rotate_left
                     ·simp only [Act.put, List.setIfInBounds_toArray, List.set_cons_zero, List.set_cons_succ, i64_w, i32_w]
                      rfl
                     refine pure_ (i := 4) (N := some 113) (v := ?_) (a' := ?_) #[true, true, true, true, true, false, true, false, true, false, false, false, false] rfl rfl (any_of HT_.out (by kernel_rfl)) (fun _ _ _ h => h) (Or.inl ⟨by rfl, ?_⟩) ?_ ?_
                     rotate_left
                     ·intro w'
                      go_simp
                      with_reducible rfl
                     rotate_left
                     ·simp only [Act.put, List.setIfInBounds_toArray, List.set_cons_zero, List.set_cons_succ, i64_w, i32_w]
                      rfl
                     refine take_ (i := 5) (N := some 114) (v := ?_) (a' := ?_) #[true, true, true, true, true, true, true, false, true, false, false, false, false] rfl rfl (take_ofW HT_.out HW_.out (by kernel_rfl)) (fun _ _ _ h => h) (Or.inl ⟨by rfl, ?_⟩) hHeld ?_ ?_
                     rotate_left
                     ·rintro w' ⟨s0, s1, s2, s3, s4, s5, s6, s7, s8, s9⟩
                      go_simp
                      with_reducible rfl
                     rotate_left
                     ·simp only [Act.put, List.setIfInBounds_toArray, List.set_cons_zero, List.set_cons_succ, i64_w, i32_w]
                      rfl
                     refine take_ (i := 7) (N := some 116) (v := ?_) (a' := ?_) #[true, true, true, true, true, true, true, true, true, false, false, false, false] rfl rfl (take_ofW HT_.out HW_.out (by kernel_rfl)) (fun _ _ _ h => h) (Or.inl ⟨by rfl, ?_⟩) hHeld ?_ ?_
                     rotate_left
                     ·rintro w' ⟨s0, s1, s2, s3, s4, s5, s6, s7, s8, s9⟩
                      go_simp
                      with_reducible rfl
                     rotate_left
                     ·simp only [Act.put, List.setIfInBounds_toArray, List.set_cons_zero, List.set_cons_succ, i64_w, i32_w]
                      rfl
                     refine pure_ (i := 9) (N := some 118) (v := ?_) (a' := ?_) #[true, true, true, true, true, true, true, true, true, true, false, false, false] rfl rfl (any_of HT_.out (by kernel_rfl)) (fun _ _ _ h => h) (Or.inl ⟨by rfl, ?_⟩) ?_ ?_
                     rotate_left
                     ·intro w'
                      go_simp
                      with_reducible rfl
                     rotate_left
                     ·simp only [Act.put, List.setIfInBounds_toArray, List.set_cons_zero, List.set_cons_succ, i64_w, i32_w]
                      rfl
                     refine pure_ (i := 10) (N := some 119) (v := ?_) (a' := ?_) #[true, true, true, true, true, true, true, true, true, true, true, false, false] rfl rfl (any_of HT_.out (by kernel_rfl)) (fun _ _ _ h => h) (Or.inl ⟨by rfl, ?_⟩) ?_ ?_
                     rotate_left
                     ·intro w'
                      go_simp
                      with_reducible rfl
                     rotate_left
                     ·simp only [Act.put, List.setIfInBounds_toArray, List.set_cons_zero, List.set_cons_succ, i64_w, i32_w]
                      rfl
                     refine take_ (i := 11) (N := some 120) (v := ?_) (a' := ?_) #[true, true, true, true, true, true, true, true, true, true, true, true, false] rfl rfl (take_ofW HT_.out HW_.out (by kernel_rfl)) (fun _ _ _ h => h) (Or.inl ⟨by rfl, ?_⟩) hHeld ?_ ?_
                     rotate_left
                     ·rintro w' ⟨s0, s1, s2, s3, s4, s5, s6, s7, s8, s9⟩
                      go_simp
                      with_reducible rfl
                     rotate_left
                     ·simp only [Act.put, List.setIfInBounds_toArray, List.set_cons_zero, List.set_cons_succ, i64_w, i32_w]
                      rfl
                     refine pure_ (i := 12) (N := some 121) (v := ?_) (a' := ?_) #[true, true, true, true, true, true, true, true, true, true, true, true, true] rfl rfl (any_of HT_.out (by kernel_rfl)) (fun _ _ _ h => h) (Or.inl ⟨by rfl, ?_⟩) ?_ ?_
                     rotate_left
                     ·intro w'
                      go_simp
                      with_reducible rfl
                     rotate_left
                     ·simp only [Act.put, List.setIfInBounds_toArray, List.set_cons_zero, List.set_cons_succ, i64_w, i32_w]
                      rfl
                     refine done_ (done_of HT_.out (by kernel_rfl)) ?_
                     try go_wp2
                     go_ret
                     exact ⟨by first | rfl | (simp [errW_none, errW_some] <;> rfl) | (simp [*, errW_none, errW_some] <;> rfl), bel_⟩
                    ·rw [if_neg c49] at H
                     have c49b0 : (((rd_T92 l0_1 x6_5).f0).toList == ((rd_T92 l0_1 x5_3).f0).toList) = false := beq_eq_false_iff_ne.mpr c49
                     have c49b1 : (((rd_T92 l0_1 x6_5).f0).toList != ((rd_T92 l0_1 x5_3).f0).toList) = true := bne_iff_ne.mpr c49
                     have H' := Aside0.mk H
                     clear H
                     try go_wp2
                     have n0_ := Aside0.mk (blk_drew BK818.out)
                     have n1_ := Aside0.mk (below_drew1 HB.out)
                     clear BK818
                     clear HB
                     have BK818 := n0_
                     have HB := n1_
                     clear n0_ n1_
                     have p831 : 0 ≤ (x6_5 : Int) := dq_
                     have q831 : x6_5 < (l0_1.length : Int) := dq_
                     obtain ⟨ad831, A831_3, c831_3, e831, hx831_0, hx831_1, hx831_2, hx831_3, hl831_3, hi831_3⟩ := at_T92 HR0_1.out x6_5 p831 q831
                     have hw831_3 := hx831_3
                     have hw831_2 := hx831_2
                     have hw831_1 := hx831_1
                     have hw831_0 := hx831_0
                     cases e831
                     replace hx831_0 := pw_cell_below HB.out hx831_0
                     replace hx831_1 := pw_cell_below HB.out hx831_1
                     replace hx831_2 := pw_cell_below HB.out hx831_2
                     replace hx831_3 := pw_cell_below HB.out hx831_3
                     have HR831_3 := Aside0.mk hi831_3
                     have HC831_3 := Aside0.mk hl831_3
                     clear hi831_3 hl831_3
                     replace p831 := eq_true p831
                     replace q831 := eq_true q831
                     have p832 : 0 ≤ (x5_3 : Int) := dq_
                     have q832 : x5_3 < (l0_1.length : Int) := dq_
                     obtain ⟨ad832, A832_3, c832_3, e832, hx832_0, hx832_1, hx832_2, hx832_3, hl832_3, hi832_3⟩ := at_T92 HR0_1.out x5_3 p832 q832
                     have hw832_3 := hx832_3
                     have hw832_2 := hx832_2
                     have hw832_1 := hx832_1
                     have hw832_0 := hx832_0
                     obtain rfl : ad831 = ad832 := (by injection e832)
                     replace hx832_0 := pw_cell_below HB.out hx832_0
                     replace hx832_1 := pw_cell_below HB.out hx832_1
                     replace hx832_2 := pw_cell_below HB.out hx832_2
                     replace hx832_3 := pw_cell_below HB.out hx832_3
                     have HR832_3 := Aside0.mk hi832_3
                     have HC832_3 := Aside0.mk hl832_3
                     clear hi832_3 hl832_3
                     replace p832 := eq_true p832
                     replace q832 := eq_true q832
                     refine start_ (n := 13) (S := fun w' => w'.cell? ⟨gb818, 0, none⟩ = some (.slice A0_0 l0_0.length c0_0) ∧ w'.cell? ⟨gb818, 1, none⟩ = some (.slice (some ad831) l0_1.length c0_1) ∧ w'.cell? (ad831.add ((x6_5).toNat * 4)) = some (.string ((rd_T92 l0_1 x6_5).f0)) ∧ w'.cell? ⟨(ad831.add ((x6_5).toNat * 4)).block, (ad831.add ((x6_5).toNat * 4)).off + 1, none⟩ = some (.bool ((rd_T92 l0_1 x6_5).f1.f0)) ∧ w'.cell? ⟨(ad831.add ((x6_5).toNat * 4)).block, (ad831.add ((x6_5).toNat * 4)).off + 2, none⟩ = some (.string ((rd_T92 l0_1 x6_5).f1.f1)) ∧ w'.cell? ⟨(ad831.add ((x6_5).toNat * 4)).block, (ad831.add ((x6_5).toNat * 4)).off + 3, none⟩ = some (.slice A831_3 ((rd_T92 l0_1 x6_5).f1.f2).length c831_3) ∧ w'.cell? (ad831.add ((x5_3).toNat * 4)) = some (.string ((rd_T92 l0_1 x5_3).f0)) ∧ w'.cell? ⟨(ad831.add ((x5_3).toNat * 4)).block, (ad831.add ((x5_3).toNat * 4)).off + 1, none⟩ = some (.bool ((rd_T92 l0_1 x5_3).f1.f0)) ∧ w'.cell? ⟨(ad831.add ((x5_3).toNat * 4)).block, (ad831.add ((x5_3).toNat * 4)).off + 2, none⟩ = some (.string ((rd_T92 l0_1 x5_3).f1.f1)) ∧ w'.cell? ⟨(ad831.add ((x5_3).toNat * 4)).block, (ad831.add ((x5_3).toNat * 4)).off + 3, none⟩ = some (.slice A832_3 ((rd_T92 l0_1 x5_3).f1.f2).length c832_3)) (ds := []) #[false, false, false, false, false, false, false, false, false, false, false, false, false] (by kernel_rfl) rfl rfl ⟨(blk_cell BK818.out 0).trans rfl, (blk_cell BK818.out 1).trans rfl, (pw_cell_below HB.out hw831_0), (pw_cell_below HB.out hw831_1), (pw_cell_below HB.out hw831_2), (pw_cell_below HB.out hw831_3), (pw_cell_below HB.out hw832_0), (pw_cell_below HB.out hw832_1), (pw_cell_below HB.out hw832_2), (pw_cell_below HB.out hw832_3)⟩ (fun hHeld => ?_); refine with_tabW sequentref04_Check.tab21 sequentref04_Check.bits21 (fun HT_ HW_ => ?_)
                     generalize wr.drew = w51 at BK818 HB HR831_3 HR832_3 hx831_0 hx831_1 hx831_2 hx831_3 hx832_0 hx832_1 hx832_2 hx832_3 hHeld ⊢
                     refine pure_ (i := 0) (N := some 109) (v := ?_) (a' := ?_) #[true, false, false, false, false, false, false, false, false, false, false, false, false] rfl rfl (any_of HT_.out (by kernel_rfl)) (fun _ _ _ h => h) (Or.inl ⟨by rfl, ?_⟩) ?_ ?_
                     rotate_left
                     ·intro w'
                      go_simp
                      with_reducible rfl
                     rotate_left
                     ·simp only [Act.put, List.setIfInBounds_toArray, List.set_cons_zero, List.set_cons_succ, i64_w, i32_w]
                      rfl
                     refine pure_ (i := 2) (N := some 111) (v := ?_) (a' := ?_) #[true, false, true, false, false, false, false, false, false, false, false, false, false] rfl rfl (any_of HT_.out (by kernel_rfl)) (fun _ _ _ h => h) (Or.inl ⟨by rfl, ?_⟩) ?_ ?_
                     rotate_left
                     ·intro w'
                      go_simp
                      with_reducible rfl
                     rotate_left
                     ·simp only [Act.put, List.setIfInBounds_toArray, List.set_cons_zero, List.set_cons_succ, i64_w, i32_w]
                      rfl
                     refine pure_ (i := 6) (N := some 115) (v := ?_) (a' := ?_) #[true, false, true, false, false, false, true, false, false, false, false, false, false] rfl rfl (any_of HT_.out (by kernel_rfl)) (fun _ _ _ h => h) (Or.inl ⟨by rfl, ?_⟩) ?_ ?_
                     rotate_left
                     ·intro w'
                      go_simp
                      with_reducible rfl
                     rotate_left
                     ·simp only [Act.put, List.setIfInBounds_toArray, List.set_cons_zero, List.set_cons_succ, i64_w, i32_w]
                      rfl
                     refine pure_ (i := 8) (N := some 117) (v := ?_) (a' := ?_) #[true, false, true, false, false, false, true, false, true, false, false, false, false] rfl rfl (any_of HT_.out (by kernel_rfl)) (fun _ _ _ h => h) (Or.inl ⟨by rfl, ?_⟩) ?_ ?_
                     rotate_left
                     ·intro w'
                      go_simp
                      with_reducible rfl
                     rotate_left
                     ·simp only [Act.put, List.setIfInBounds_toArray, List.set_cons_zero, List.set_cons_succ, i64_w, i32_w]
                      rfl
                     refine take_ (i := 1) (N := some 110) (v := ?_) (a' := ?_) #[true, true, true, false, false, false, true, false, true, false, false, false, false] rfl rfl (take_ofW HT_.out HW_.out (by kernel_rfl)) (fun _ _ _ h => h) (Or.inl ⟨by rfl, ?_⟩) hHeld ?_ ?_
                     rotate_left
                     ·rintro w' ⟨s0, s1, s2, s3, s4, s5, s6, s7, s8, s9⟩
                      go_simp
                      with_reducible rfl
                     rotate_left
                     ·simp only [Act.put, List.setIfInBounds_toArray, List.set_cons_zero, List.set_cons_succ, i64_w, i32_w]
                      rfl
                     refine pure_ (i := 3) (N := some 112) (v := ?_) (a' := ?_) #[true, true, true, true, false, false, true, false, true, false, false, false, false] rfl rfl (any_of HT_.out (by kernel_rfl)) (fun _ _ _ h => h) (Or.inl ⟨by rfl, ?_⟩) ?_ ?_
                     rotate_left
                     ·intro w'
                      go_simp
                      with_reducible rfl
                     rotate_left
                     ·simp only [Act.put, List.setIfInBounds_toArray, List.set_cons_zero, List.set_cons_succ, i64_w, i32_w]
                      rfl
                     refine pure_ (i := 4) (N := some 113) (v := ?_) (a' := ?_) #[true, true, true, true, true, false, true, false, true, false, false, false, false] rfl rfl (any_of HT_.out (by kernel_rfl)) (fun _ _ _ h => h) (Or.inl ⟨by rfl, ?_⟩) ?_ ?_
                     rotate_left
                     ·intro w'
                      go_simp
                      with_reducible rfl
                     rotate_left
                     ·simp only [Act.put, List.setIfInBounds_toArray, List.set_cons_zero, List.set_cons_succ, i64_w, i32_w]
                      rfl
                     refine take_ (i := 5) (N := some 114) (v := ?_) (a' := ?_) #[true, true, true, true, true, true, true, false, true, false, false, false, false] rfl rfl (take_ofW HT_.out HW_.out (by kernel_rfl)) (fun _ _ _ h => h) (Or.inl ⟨by rfl, ?_⟩) hHeld ?_ ?_
                     rotate_left
                     ·rintro w' ⟨s0, s1, s2, s3, s4, s5, s6, s7, s8, s9⟩
                      go_simp
                      with_reducible rfl
                     rotate_left
                     ·simp only [Act.put, List.setIfInBounds_toArray, List.set_cons_zero, List.set_cons_succ, i64_w, i32_w]
                      rfl
                     refine take_ (i := 7) (N := some 116) (v := ?_) (a' := ?_) #[true, true, true, true, true, true, true, true, true, false, false, false, false] rfl rfl (take_ofW HT_.out HW_.out (by kernel_rfl)) (fun _ _ _ h => h) (Or.inl ⟨by rfl, ?_⟩) hHeld ?_ ?_
                     rotate_left
                     ·rintro w' ⟨s0, s1, s2, s3, s4, s5, s6, s7, s8, s9⟩
                      go_simp
                      with_reducible rfl
                     rotate_left
                     ·simp only [Act.put, List.setIfInBounds_toArray, List.set_cons_zero, List.set_cons_succ, i64_w, i32_w]
                      rfl
                     refine pure_ (i := 9) (N := some 118) (v := ?_) (a' := ?_) #[true, true, true, true, true, true, true, true, true, true, false, false, false] rfl rfl (any_of HT_.out (by kernel_rfl)) (fun _ _ _ h => h) (Or.inl ⟨by rfl, ?_⟩) ?_ ?_
                     rotate_left
                     ·intro w'
                      go_simp
                      with_reducible rfl
                     rotate_left
                     ·simp only [Act.put, List.setIfInBounds_toArray, List.set_cons_zero, List.set_cons_succ, i64_w, i32_w]
                      rfl
                     refine pure_ (i := 10) (N := some 119) (v := ?_) (a' := ?_) #[true, true, true, true, true, true, true, true, true, true, true, false, false] rfl rfl (any_of HT_.out (by kernel_rfl)) (fun _ _ _ h => h) (Or.inl ⟨by rfl, ?_⟩) ?_ ?_
                     rotate_left
                     ·intro w'
                      go_simp
                      with_reducible rfl
                     rotate_left
                     ·simp only [Act.put, List.setIfInBounds_toArray, List.set_cons_zero, List.set_cons_succ, i64_w, i32_w]
                      rfl
                     refine take_ (i := 11) (N := some 120) (v := ?_) (a' := ?_) #[true, true, true, true, true, true, true, true, true, true, true, true, false] rfl rfl (take_ofW HT_.out HW_.out (by kernel_rfl)) (fun _ _ _ h => h) (Or.inl ⟨by rfl, ?_⟩) hHeld ?_ ?_
                     rotate_left
                     ·rintro w' ⟨s0, s1, s2, s3, s4, s5, s6, s7, s8, s9⟩
                      go_simp
                      with_reducible rfl
                     rotate_left
                     ·simp only [Act.put, List.setIfInBounds_toArray, List.set_cons_zero, List.set_cons_succ, i64_w, i32_w]
                      rfl
                     refine pure_ (i := 12) (N := some 121) (v := ?_) (a' := ?_) #[true, true, true, true, true, true, true, true, true, true, true, true, true] rfl rfl (any_of HT_.out (by kernel_rfl)) (fun _ _ _ h => h) (Or.inl ⟨by rfl, ?_⟩) ?_ ?_
                     rotate_left
                     ·intro w'
                      go_simp
                      with_reducible rfl
                     rotate_left
                     ·simp only [Act.put, List.setIfInBounds_toArray, List.set_cons_zero, List.set_cons_succ, i64_w, i32_w]
                      rfl
                     refine done_ (done_of HT_.out (by kernel_rfl)) ?_
                     try go_wp2
                     go_roundg k5
                     case measure => have := HJ1.out; have := HK2.out; have := HK3.out; have := HJ28.out; have := HK5.out; omega
                     case rel => exact ⟨(wrap64 (x6_5 + 1)), (by first | rfl | (simp; done) | (simp [*]; done)), H', ⟨by have := HJ1.out; have := HK2.out; have := HK3.out; have := HJ28.out; have := HK5.out; omega⟩, ⟨bk_ BK818⟩, ⟨bel_⟩⟩
                   ·rw [if_neg c48] at H
                    exact absurd H (by simp)
                  ·rw [if_neg c47] at H
                   exact absurd H (by simp)
                 ·rw [if_neg c46] at H
                  exact absurd H (by simp)
                ·rw [if_neg c45] at H
                 exact absurd H (by simp)
               ·rw [if_neg c44] at H
                have c44b0 : decide (x6_5 < x5_3) = false := decide_eq_false c44
                clear c44
                have H' := Aside0.mk H
                clear H
                go_wp2
                go_roundg k5
                case measure => have := HJ1.out; have := HK2.out; have := HK3.out; have := HJ28.out; have := HK5.out; omega
                case rel => exact ⟨(wrap64 (x5_3 + 1)), (by first | rfl | (simp; done) | (simp [*]; done)), H', ⟨by have := HJ1.out; have := HK2.out; have := HK3.out; have := HJ28.out; have := HK5.out; omega⟩, ⟨bk_ BK818⟩, ⟨bel_⟩⟩
         ·rw [if_neg c28] at H
          have c28b0 : decide (x5_3 < (l0_1.length : Int)) = false := decide_eq_false c28
          clear c28
          obtain rfl := Option.some.inj H
          have hcz52_0 : wr.cell? ⟨gb818, 0, none⟩ = some (.slice A0_0 l0_0.length c0_0) := (blk_cell BK818.out 0).trans rfl
          have hcz52_1 : wr.cell? ⟨gb818, 1, none⟩ = some (.slice A0_1 l0_1.length c0_1) := (blk_cell BK818.out 1).trans rfl
          have hfz52_0 := blk_frozen BK818.out 0
          have hfz52_1 := blk_frozen BK818.out 1
          go_wp2
          go_ret
          exact ⟨by first | rfl | (simp [errW_none, errW_some] <;> rfl) | (simp [*, errW_none, errW_some] <;> rfl), bel_⟩

end Go.Proofs.Ytgnklkmifcmlhaa.Q
--PATCHED
-- written by a program of this session (wip/tools/myprint.py) out of the translation
namespace Go.Proofs.Ytgnklkmifcmlhaa.Q
open Go.RowKit Go.Proofs.YtgnklkmifcmlhaaW.PrintWords Go.Proofs.YtgnklkmifcmlhaaW.PrintLast Go.Proofs.YtgnklkmifcmlhaaW.PrintMore
attribute [local go_sem] max2_int min2_int max_two min_two max_three min_three max_four min_four   -- for this text's walks alone
set_option linter.unusedVariables false
set_option linter.unusedSimpArgs false

/-! ### sequentref04_AddType: function 52 -/
def sequentref04_AddType.j0 : Nat → ByteArray → Int → Bool → List (S124) → List (S92) → Option ((List (S124)) × (List (S92)) × Int)
 | 0, _, _, _, _, _ => none
 | k + 1, x1, x2, x27, x846000, x846001 => if x27 = true then (some (([] : List (S124)), ([] : List (S92)), 2)) else ((sequentref04_TypeOp.f k x846000 x846001 x1).bind fun bt849 => (if bt849.2 = true then (some (([] : List (S124)), ([] : List (S92)), 41)) else (if (x846000.length : Int) ≥ 512 then (some (([] : List (S124)), ([] : List (S92)), 4)) else ((sequentref04_WithType.f k x846000 x846001 x1 x2).bind fun bt851 => (some (bt851.1, bt851.2, 0))))))
def sequentref04_AddType.f (k : Nat) (l0_0 : List (S124)) (l0_1 : List (S92)) (a1 : ByteArray) (a2 : Int) : Option ((List (S124)) × (List (S92)) × Int) := (sequentref04_Check.f k l0_0 l0_1).bind fun t847 => (if t847 = 0 then ((sequentref04_Operator.f k a1).bind fun t848 => (if t848 = true then (if a2 < 0 then (sequentref04_AddType.j0 k a1 a2 true l0_0 l0_1) else (sequentref04_AddType.j0 k a1 a2 (decide (a2 > 8)) l0_0 l0_1)) else (sequentref04_AddType.j0 k a1 a2 true l0_0 l0_1))) else (some (([] : List (S124)), ([] : List (S92)), t847)))
set_option maxHeartbeats 8000000 in
set_option maxRecDepth 100000 in
theorem sequentref04_AddType.calls (k : Nat) (A0_0 : Option Addr) (c0_0 : Nat) (l0_0 : List (S124)) (A0_1 : Option Addr) (c0_1 : Nat) (l0_1 : List (S92)) (a1 : ByteArray) (a2 : Int) (r1 : List (S124)) (r2 : List (S92)) (r3 : Int) (w : World) (hr0_0 : Kd.C k124 w A0_0 l0_0.length l0_0) (hc0_0 : l0_0.length ≤ c0_0) (hr0_1 : Kd.C k92 w A0_1 l0_1.length l0_1) (hc0_1 : l0_1.length ≤ c0_1) (h : sequentref04_AddType.f k l0_0 l0_1 a1 a2 = some (r1, r2, r3)) :
 Calls Try.prog 52 #[.agg #[.slice A0_0 l0_0.length c0_0, .slice A0_1 l0_1.length c0_1], .string a1, .int .i64 a2] w fun e w' => ∃ v0_ v1_ : Value, e = .returned (.tuple #[.agg #[v0_, v1_], .int .i64 r3]) ∧ Kd.R k124 124 w' w.heap.size (fun _ => True) v0_ r1 ∧ Kd.R k92 92 w' w.heap.size (fun _ => True) v1_ r2 ∧ Below w.heap.size w w' := by
 have hu81 := Try.underlying81
 have HR0_0 := Aside0.mk hr0_0
 have HC0_0 := Aside0.mk hc0_0
 clear hr0_0 hc0_0
 have HR0_1 := Aside0.mk hr0_1
 have HC0_1 := Aside0.mk hc0_1
 clear hr0_1 hc0_1
 have HB := Aside0.mk (Below.refl w.heap.size w)
 have H : ((sequentref04_Check.f k l0_0 l0_1).bind fun t847 => (if t847 = 0 then ((sequentref04_Operator.f k a1).bind fun t848 => (if t848 = true then (if a2 < 0 then (sequentref04_AddType.j0 k a1 a2 true l0_0 l0_1) else (sequentref04_AddType.j0 k a1 a2 (decide (a2 > 8)) l0_0 l0_1)) else (sequentref04_AddType.j0 k a1 a2 true l0_0 l0_1))) else (some (([] : List (S124)), ([] : List (S92)), t847)))) = some (r1, r2, r3) := h
 clear h
 replace H := Option.bind_eq_some_iff.mp H
 obtain ⟨t847, A40, H⟩ := H
 replace H : (if t847 = 0 then ((sequentref04_Operator.f k a1).bind fun t848 => (if t848 = true then (if a2 < 0 then (sequentref04_AddType.j0 k a1 a2 true l0_0 l0_1) else (sequentref04_AddType.j0 k a1 a2 (decide (a2 > 8)) l0_0 l0_1)) else (sequentref04_AddType.j0 k a1 a2 true l0_0 l0_1))) else (some (([] : List (S124)), ([] : List (S92)), t847))) = some (r1, r2, r3) := H
 have A4 := Aside0.mk A40
 clear A40
 by_cases c5 : t847 = 0
 ·rw [if_pos c5] at H
  have c5b0 : (t847 == 0) = true := beq_iff_eq.mpr c5
  have c5b1 : (t847 != 0) = false := bne_eq_false_iff_eq.mpr c5
  clear c5
  have HC6 := Aside0.mk H
  clear H
  go_enter Try.func52, Try.ntmps52
  go_upto_region 4 with (first | ((with_reducible refine gate_dst (N := 3) rfl ?_); refine box_event ?hg (N := 3) ?hd (cs := #[.slice A0_0 l0_0.length c0_0, .slice A0_1 l0_1.length c0_1]) (t := 81) ?hr ?_; (case hd => rfl); (case hg => rfl); (case hr => first | (go_simp; done) | (go_simp; rfl)); intro gb845 hg w7 hbox hb; have n0_ := Aside0.mk (below_step bel_ hb); have n1_ := Aside0.mk (hbox); have n2_ := Aside0.mk ((by rw [hg]; exact (below_size bel_) : w.heap.size ≤ gb845)); have n3_ := Aside0.mk ((by rw [hg]; exact (below_size bel_) : w.heap.size ≤ gb845)); clear HB; have HB := n0_; have BK845 := n1_; have GW845 := n2_; have GE845 := n3_; clear n0_ n1_ n2_ n3_; clear hb hbox hg) | ((with_reducible refine gate_dst (N := 6) rfl ?_); refine box_event ?hg (N := 6) ?hd (cs := #[.slice none 0 0, .slice none 0 0]) (t := 81) ?hr ?_; (case hd => rfl); (case hg => rfl); (case hr => first | (go_simp; done) | (go_simp; rfl)); intro gb846 hg w8 hbox hb; have n0_ := Aside0.mk (blk_below (g := gb845) (o := .cells #[.slice A0_0 l0_0.length c0_0, .slice A0_1 l0_1.length c0_1] 81 (0, 0)) (bk_ BK845) hb); have n1_ := Aside0.mk (below_step bel_ hb); have n2_ := Aside0.mk (hbox); have n3_ := Aside0.mk ((by rw [hg]; exact (below_size bel_) : w.heap.size ≤ gb846)); have n4_ := Aside0.mk ((by rw [hg]; exact (below_size bel_) : w.heap.size ≤ gb846)); have n5_ := Aside0.mk ((by rw [hg]; exact Nat.ne_of_lt (blk_lt (g := gb845) (o := .cells #[.slice A0_0 l0_0.length c0_0, .slice A0_1 l0_1.length c0_1] 81 (0, 0)) (bk_ BK845)) : gb845 ≠ gb846)); have n6_ := Aside0.mk ((by rw [hg]; exact Nat.ne_of_gt (blk_lt (g := gb845) (o := .cells #[.slice A0_0 l0_0.length c0_0, .slice A0_1 l0_1.length c0_1] 81 (0, 0)) (bk_ BK845)) : gb846 ≠ gb845)); clear BK845; clear HB; have BK845 := n0_; have HB := n1_; have BK846 := n2_; have GW846 := n3_; have GE846 := n4_; have NB845_846 := n5_; have NB846_845 := n6_; clear n0_ n1_ n2_ n3_ n4_ n5_ n6_; clear hb hbox hg; have hnb9 := NB845_846.out; have hnc9 := NB846_845.out; have hcz10_0 : w8.cell? ⟨gb845, 0, none⟩ = some (.slice A0_0 l0_0.length c0_0) := (blk_cell BK845.out 0).trans rfl; have hcz10_1 : w8.cell? ⟨gb845, 1, none⟩ = some (.slice A0_1 l0_1.length c0_1) := (blk_cell BK845.out 1).trans rfl; have hfz10_0 := blk_frozen BK845.out 0; have hfz10_1 := blk_frozen BK845.out 1) | ((with_reducible refine gate_callee (f := 87) rfl ?_); refine goesL_ (some 12) rfl rfl Try.func87 (by kernel_rfl) rfl #[.agg #[.slice A0_0 l0_0.length c0_0, .slice A0_1 l0_1.length c0_1]] rfl (by (try simp only [List.map_toArray, List.map_cons, List.map_nil]); first | done | rfl | (simp only [List.length_drop, List.length_take]; rfl)) ?_; (with_reducible refine (sequentref04_Check.calls k _ _ l0_0 _ _ l0_1 t847 _ ?side1 ?side2 ?side3 ?side4 A4.out).mono ?_); (case side1 => repeat (first | exact (Kd.C_below HR0_0.out HB.out) | (with_reducible refine Kd.C_alloc ?_ _) | (with_reducible refine Kd.C_drewN ?_ _) | (with_reducible refine Kd.C_drew ?_))); (case side2 => exact HC0_0.out); (case side3 => repeat (first | exact (Kd.C_below HR0_1.out HB.out) | (with_reducible refine Kd.C_alloc ?_ _) | (with_reducible refine Kd.C_drewN ?_ _) | (with_reducible refine Kd.C_drew ?_))); (case side4 => exact HC0_1.out); rintro e w11 ⟨rfl, hb⟩; refine ⟨_, rfl, ?_⟩; have n0_ := Aside0.mk (blk_below (g := gb845) (o := .cells #[.slice A0_0 l0_0.length c0_0, .slice A0_1 l0_1.length c0_1] 81 (0, 0)) (bk_ BK845) hb); have n1_ := Aside0.mk (blk_below (g := gb846) (o := .cells #[.slice none 0 0, .slice none 0 0] 81 (0, 0)) (bk_ BK846) hb); have n2_ := Aside0.mk (below_step bel_ hb); clear BK845; clear BK846; clear HB; have BK845 := n0_; have BK846 := n1_; have HB := n2_; clear n0_ n1_ n2_; (try clear hb); (try clear hb2); (try clear hk); (try clear hi)))
  (try simp only [Act.put, List.setIfInBounds_toArray, List.set_cons_zero, List.set_cons_succ])
  go_cut [27] (fun v27 wc => ∃ (kq : Nat) (x27_5 : Bool), v27 = .bool x27_5 ∧ Aside0 (sequentref04_AddType.j0 kq a1 a2 x27_5 l0_0 l0_1 = some (r1, r2, r3)) ∧ Aside0 (kq ≤ k) ∧ Aside0 (wc.heap[gb845]? = some (.cells #[(.slice A0_0 l0_0.length c0_0), (.slice A0_1 l0_1.length c0_1)] 81 (0, 0))) ∧ Aside0 (wc.heap[gb846]? = some (.cells #[(.slice none 0 0), (.slice none 0 0)] 81 (0, 0))) ∧ Aside0 (Below w.heap.size w wc))
  case first =>
   have H := HC6.out
   clear HC6
   replace H := Option.bind_eq_some_iff.mp H
   obtain ⟨t848, A120, H⟩ := H
   replace H : (if t848 = true then (if a2 < 0 then (sequentref04_AddType.j0 k a1 a2 true l0_0 l0_1) else (sequentref04_AddType.j0 k a1 a2 (decide (a2 > 8)) l0_0 l0_1)) else (sequentref04_AddType.j0 k a1 a2 true l0_0 l0_1)) = some (r1, r2, r3) := H
   have A12 := Aside0.mk A120
   clear A120
   by_cases c13 : t848 = true
   ·subst c13
    have H1 : (if a2 < 0 then (sequentref04_AddType.j0 k a1 a2 true l0_0 l0_1) else (sequentref04_AddType.j0 k a1 a2 (decide (a2 > 8)) l0_0 l0_1)) = some (r1, r2, r3) := by rw [if_pos rfl] at H; exact H
    clear H
    have H := H1
    clear H1
    by_cases c14 : a2 < 0
    ·rw [if_pos c14] at H
     have c14b0 : decide (a2 < 0) = true := decide_eq_true c14
     clear c14
     (first | rw [c14b0] | (simp only [i64_w, i32_w]; rw [c14b0]) | skip)
     have H' := Aside0.mk H
     clear H
     go_wp2_with (first | ((with_reducible refine gate_callee (f := 88) rfl ?_); refine goesL_ (some 18) rfl rfl Try.func88 (by kernel_rfl) rfl #[.string a1] rfl (by (try simp only [List.map_toArray, List.map_cons, List.map_nil]); first | done | rfl | (simp only [List.length_drop, List.length_take]; rfl)) ?_; (with_reducible refine (sequentref04_Operator.calls k a1 true _ A12.out).mono ?_); rintro e w' ⟨rfl, ⟨nd, rfl⟩⟩; refine ⟨_, rfl, ?_⟩))
     go_meet
     case rel => exact ⟨_, (true), (by first | rfl | (simp; done) | (simp [*]; done)), H', ⟨by first | omega | exact Nat.le_refl _⟩, ⟨bk_ BK845⟩, ⟨bk_ BK846⟩, ⟨bel_⟩⟩
    ·rw [if_neg c14] at H
     have c14b0 : decide (a2 < 0) = false := decide_eq_false c14
     clear c14
     (first | rw [c14b0] | (simp only [i64_w, i32_w]; rw [c14b0]) | skip)
     have H' := Aside0.mk H
     clear H
     go_wp2_with (first | ((with_reducible refine gate_callee (f := 88) rfl ?_); refine goesL_ (some 18) rfl rfl Try.func88 (by kernel_rfl) rfl #[.string a1] rfl (by (try simp only [List.map_toArray, List.map_cons, List.map_nil]); first | done | rfl | (simp only [List.length_drop, List.length_take]; rfl)) ?_; (with_reducible refine (sequentref04_Operator.calls k a1 true _ A12.out).mono ?_); rintro e w' ⟨rfl, ⟨nd, rfl⟩⟩; refine ⟨_, rfl, ?_⟩))
     go_meet
     case rel => exact ⟨_, (decide (a2 > 8)), (by first | rfl | (simp; done) | (simp [*]; done)), H', ⟨by first | omega | exact Nat.le_refl _⟩, ⟨bk_ BK845⟩, ⟨bk_ BK846⟩, ⟨bel_⟩⟩
   ·replace c13 := Bool.eq_false_iff.mpr c13
    subst c13
    have H1 : (sequentref04_AddType.j0 k a1 a2 true l0_0 l0_1) = some (r1, r2, r3) := by rw [if_neg (show ¬ (false = true) by decide)] at H; exact H
    clear H
    have H := H1
    clear H1
    have H' := Aside0.mk H
    clear H
    go_wp2_with (first | ((with_reducible refine gate_callee (f := 88) rfl ?_); refine goesL_ (some 18) rfl rfl Try.func88 (by kernel_rfl) rfl #[.string a1] rfl (by (try simp only [List.map_toArray, List.map_cons, List.map_nil]); first | done | rfl | (simp only [List.length_drop, List.length_take]; rfl)) ?_; (with_reducible refine (sequentref04_Operator.calls k a1 false _ A12.out).mono ?_); rintro e w' ⟨rfl, ⟨nd, rfl⟩⟩; refine ⟨_, rfl, ?_⟩))
    go_meet
    case rel => exact ⟨_, (true), (by first | rfl | (simp; done) | (simp [*]; done)), H', ⟨by first | omega | exact Nat.le_refl _⟩, ⟨bk_ BK845⟩, ⟨bk_ BK846⟩, ⟨bel_⟩⟩
  case rest =>
   clear HC6
   try clear c1
   try clear p2
   try clear c5
   try clear c5b0
   try clear c5b1
   try clear c8
   try clear c9
   try clear c13
   try clear c14
   try clear c14b0
   try clear hcz10_0
   try clear hcz10_1
   try clear hfz10_0
   try clear hfz10_1
   obtain ⟨kq, x27_5, rfl, HA, HJ5, BK845, BK846, HB⟩ := hcut
   cases kq with
   | zero => exact absurd HA.out (by simp [sequentref04_AddType.j0])
   | succ kj5 =>
    have H := HA.out
    clear HA
    simp only [sequentref04_AddType.j0] at H
    by_cases c15 : x27_5 = true
    ·subst c15
     have H1 : (some (([] : List (S124)), ([] : List (S92)), 2)) = some (r1, r2, r3) := by rw [if_pos rfl] at H; exact H
     clear H
     have H := H1
     clear H1
     simp only [Option.some.injEq, Prod.mk.injEq] at H
     obtain ⟨rfl, rfl, rfl⟩ := H
     have hnb16 := NB846_845.out
     have hnc16 := NB845_846.out
     have hcz17_0 : wc.cell? ⟨gb846, 0, none⟩ = some (.slice none 0 0) := (blk_cell BK846.out 0).trans rfl
     have hcz17_1 : wc.cell? ⟨gb846, 1, none⟩ = some (.slice none 0 0) := (blk_cell BK846.out 1).trans rfl
     have hfz17_0 := blk_frozen BK846.out 0
     have hfz17_1 := blk_frozen BK846.out 1
     go_wp2
     refine bodyPost_ret (results_ct rfl _ _ gb846 81 #[.slice none 0 0, .slice none 0 0] (0, 0) _ rfl (by (with_reducible repeat (first | refine blk_drewN ?_ _ | refine blk_drew ?_ | refine blk_alloc ?_ _)); refine blk_put (cs := #[.slice none 0 0, .slice none 0 0]) ?_ 1 _ rfl; (with_reducible repeat (first | refine blk_drewN ?_ _ | refine blk_drew ?_ | refine blk_alloc ?_ _)); refine blk_put (cs := #[.slice none 0 0, .slice none 0 0]) ?_ 0 _ rfl; (with_reducible repeat (first | refine blk_drewN ?_ _ | refine blk_drew ?_ | refine blk_alloc ?_ _)); exact BK846.out) Try.underlying81 rfl (by kernel_rfl)) rfl ?_
     exact ⟨_, _, by first | rfl | (simp [errW_none, errW_some] <;> rfl) | (simp [*, errW_none, errW_some] <;> rfl), by first | exact Kd.R_nil _ _ _ _ _ | exact Kd.N_nil _ _ _ _ _ | exact Kd.V_nil _ _ _ _ _ | exact Kd.Q_nil _ _ _ _ _ | exact Kd.S_nil _ _ _ _ _, by first | exact Kd.R_nil _ _ _ _ _ | exact Kd.N_nil _ _ _ _ _ | exact Kd.V_nil _ _ _ _ _ | exact Kd.Q_nil _ _ _ _ _ | exact Kd.S_nil _ _ _ _ _, bel_⟩
    ·replace c15 := Bool.eq_false_iff.mpr c15
     subst c15
     have H1 : ((sequentref04_TypeOp.f kj5 l0_0 l0_1 a1).bind fun bt849 => (if bt849.2 = true then (some (([] : List (S124)), ([] : List (S92)), 41)) else (if (l0_0.length : Int) ≥ 512 then (some (([] : List (S124)), ([] : List (S92)), 4)) else ((sequentref04_WithType.f kj5 l0_0 l0_1 a1 a2).bind fun bt851 => (some (bt851.1, bt851.2, 0)))))) = some (r1, r2, r3) := by rw [if_neg (show ¬ (false = true) by decide)] at H; exact H
     clear H
     have H := H1
     clear H1
     replace H := Option.bind_eq_some_iff.mp H
     obtain ⟨⟨t849, t850⟩, A180, H⟩ := H
     replace H : (if t850 = true then (some (([] : List (S124)), ([] : List (S92)), 41)) else (if (l0_0.length : Int) ≥ 512 then (some (([] : List (S124)), ([] : List (S92)), 4)) else ((sequentref04_WithType.f kj5 l0_0 l0_1 a1 a2).bind fun bt851 => (some (bt851.1, bt851.2, 0))))) = some (r1, r2, r3) := H
     have A18 := Aside0.mk A180
     clear A180
     by_cases c19 : t850 = true
     ·subst c19
      have H1 : (some (([] : List (S124)), ([] : List (S92)), 41)) = some (r1, r2, r3) := by rw [if_pos rfl] at H; exact H
      clear H
      have H := H1
      clear H1
      simp only [Option.some.injEq, Prod.mk.injEq] at H
      obtain ⟨rfl, rfl, rfl⟩ := H
      have hnb20 := NB845_846.out
      have hnc20 := NB846_845.out
      have hcz21_0 : wc.cell? ⟨gb845, 0, none⟩ = some (.slice A0_0 l0_0.length c0_0) := (blk_cell BK845.out 0).trans rfl
      have hcz21_1 : wc.cell? ⟨gb845, 1, none⟩ = some (.slice A0_1 l0_1.length c0_1) := (blk_cell BK845.out 1).trans rfl
      have hfz21_0 := blk_frozen BK845.out 0
      have hfz21_1 := blk_frozen BK845.out 1
      go_wp2_with (first | ((with_reducible refine gate_callee (f := 89) rfl ?_); refine goesL_ (some 32) rfl rfl Try.func89 (by kernel_rfl) rfl #[.agg #[.slice A0_0 l0_0.length c0_0, .slice A0_1 l0_1.length c0_1], .string a1] rfl (by (try simp only [List.map_toArray, List.map_cons, List.map_nil]); first | done | rfl | (simp only [List.length_drop, List.length_take]; rfl)) ?_; (with_reducible refine (sequentref04_TypeOp.calls kj5 _ _ l0_0 _ _ l0_1 a1 t849 true _ ?side1 ?side2 ?side3 ?side4 A18.out).mono ?_); (case side1 => repeat (first | exact (Kd.C_below HR0_0.out HB.out) | (with_reducible refine Kd.C_alloc ?_ _) | (with_reducible refine Kd.C_drewN ?_ _) | (with_reducible refine Kd.C_drew ?_))); (case side2 => exact HC0_0.out); (case side3 => repeat (first | exact (Kd.C_below HR0_1.out HB.out) | (with_reducible refine Kd.C_alloc ?_ _) | (with_reducible refine Kd.C_drewN ?_ _) | (with_reducible refine Kd.C_drew ?_))); (case side4 => exact HC0_1.out); rintro e w22 ⟨rfl, hb⟩; refine ⟨_, rfl, ?_⟩; have n0_ := Aside0.mk (blk_below (g := gb845) (o := .cells #[.slice A0_0 l0_0.length c0_0, .slice A0_1 l0_1.length c0_1] 81 (0, 0)) (bk_ BK845) hb); have n1_ := Aside0.mk (blk_below (g := gb846) (o := .cells #[.slice none 0 0, .slice none 0 0] 81 (0, 0)) (bk_ BK846) hb); have n2_ := Aside0.mk (below_step bel_ hb); clear BK845; clear BK846; clear HB; have BK845 := n0_; have BK846 := n1_; have HB := n2_; clear n0_ n1_ n2_; (try clear hb); (try clear hb2); (try clear hk); (try clear hi); have hcz23_0 : w22.cell? ⟨gb846, 0, none⟩ = some (.slice none 0 0) := (blk_cell BK846.out 0).trans rfl; have hcz23_1 : w22.cell? ⟨gb846, 1, none⟩ = some (.slice none 0 0) := (blk_cell BK846.out 1).trans rfl; have hfz23_0 := blk_frozen BK846.out 0; have hfz23_1 := blk_frozen BK846.out 1))
      refine bodyPost_ret (results_ct rfl _ _ gb846 81 #[.slice none 0 0, .slice none 0 0] (0, 0) _ rfl (by (with_reducible repeat (first | refine blk_drewN ?_ _ | refine blk_drew ?_ | refine blk_alloc ?_ _)); refine blk_put (cs := #[.slice none 0 0, .slice none 0 0]) ?_ 1 _ rfl; (with_reducible repeat (first | refine blk_drewN ?_ _ | refine blk_drew ?_ | refine blk_alloc ?_ _)); refine blk_put (cs := #[.slice none 0 0, .slice none 0 0]) ?_ 0 _ rfl; (with_reducible repeat (first | refine blk_drewN ?_ _ | refine blk_drew ?_ | refine blk_alloc ?_ _)); exact BK846.out) Try.underlying81 rfl (by kernel_rfl)) rfl ?_
      exact ⟨_, _, by first | rfl | (simp [errW_none, errW_some] <;> rfl) | (simp [*, errW_none, errW_some] <;> rfl), by first | exact Kd.R_nil _ _ _ _ _ | exact Kd.N_nil _ _ _ _ _ | exact Kd.V_nil _ _ _ _ _ | exact Kd.Q_nil _ _ _ _ _ | exact Kd.S_nil _ _ _ _ _, by first | exact Kd.R_nil _ _ _ _ _ | exact Kd.N_nil _ _ _ _ _ | exact Kd.V_nil _ _ _ _ _ | exact Kd.Q_nil _ _ _ _ _ | exact Kd.S_nil _ _ _ _ _, bel_⟩
     ·replace c19 := Bool.eq_false_iff.mpr c19
      subst c19
      have H1 : (if (l0_0.length : Int) ≥ 512 then (some (([] : List (S124)), ([] : List (S92)), 4)) else ((sequentref04_WithType.f kj5 l0_0 l0_1 a1 a2).bind fun bt851 => (some (bt851.1, bt851.2, 0)))) = some (r1, r2, r3) := by rw [if_neg (show ¬ (false = true) by decide)] at H; exact H
      clear H
      have H := H1
      clear H1
      by_cases c24 : (l0_0.length : Int) ≥ 512
      ·rw [if_pos c24] at H
       have c24b0 : decide (512 ≤ (l0_0.length : Int)) = true := decide_eq_true c24
       have c24b1 : decide (512 ≤ l0_0.length) = true := decide_eq_true (by omega)
       clear c24
       simp only [Option.some.injEq, Prod.mk.injEq] at H
       obtain ⟨rfl, rfl, rfl⟩ := H
       have hnb25 := NB845_846.out
       have hnc25 := NB846_845.out
       have hcz26_0 : wc.cell? ⟨gb845, 0, none⟩ = some (.slice A0_0 l0_0.length c0_0) := (blk_cell BK845.out 0).trans rfl
       have hcz26_1 : wc.cell? ⟨gb845, 1, none⟩ = some (.slice A0_1 l0_1.length c0_1) := (blk_cell BK845.out 1).trans rfl
       have hfz26_0 := blk_frozen BK845.out 0
       have hfz26_1 := blk_frozen BK845.out 1
       go_wp2_with (first | ((with_reducible refine gate_callee (f := 89) rfl ?_); refine goesL_ (some 32) rfl rfl Try.func89 (by kernel_rfl) rfl #[.agg #[.slice A0_0 l0_0.length c0_0, .slice A0_1 l0_1.length c0_1], .string a1] rfl (by (try simp only [List.map_toArray, List.map_cons, List.map_nil]); first | done | rfl | (simp only [List.length_drop, List.length_take]; rfl)) ?_; (with_reducible refine (sequentref04_TypeOp.calls kj5 _ _ l0_0 _ _ l0_1 a1 t849 false _ ?side1 ?side2 ?side3 ?side4 A18.out).mono ?_); (case side1 => repeat (first | exact (Kd.C_below HR0_0.out HB.out) | (with_reducible refine Kd.C_alloc ?_ _) | (with_reducible refine Kd.C_drewN ?_ _) | (with_reducible refine Kd.C_drew ?_))); (case side2 => exact HC0_0.out); (case side3 => repeat (first | exact (Kd.C_below HR0_1.out HB.out) | (with_reducible refine Kd.C_alloc ?_ _) | (with_reducible refine Kd.C_drewN ?_ _) | (with_reducible refine Kd.C_drew ?_))); (case side4 => exact HC0_1.out); rintro e w27 ⟨rfl, hb⟩; refine ⟨_, rfl, ?_⟩; have n0_ := Aside0.mk (blk_below (g := gb845) (o := .cells #[.slice A0_0 l0_0.length c0_0, .slice A0_1 l0_1.length c0_1] 81 (0, 0)) (bk_ BK845) hb); have n1_ := Aside0.mk (blk_below (g := gb846) (o := .cells #[.slice none 0 0, .slice none 0 0] 81 (0, 0)) (bk_ BK846) hb); have n2_ := Aside0.mk (below_step bel_ hb); clear BK845; clear BK846; clear HB; have BK845 := n0_; have BK846 := n1_; have HB := n2_; clear n0_ n1_ n2_; (try clear hb); (try clear hb2); (try clear hk); (try clear hi); have hcz28_0 : w27.cell? ⟨gb845, 0, none⟩ = some (.slice A0_0 l0_0.length c0_0) := (blk_cell BK845.out 0).trans rfl; have hcz28_1 : w27.cell? ⟨gb845, 1, none⟩ = some (.slice A0_1 l0_1.length c0_1) := (blk_cell BK845.out 1).trans rfl; have hfz28_0 := blk_frozen BK845.out 0; have hfz28_1 := blk_frozen BK845.out 1; have hcz29_0 : w27.cell? ⟨gb846, 0, none⟩ = some (.slice none 0 0) := (blk_cell BK846.out 0).trans rfl; have hcz29_1 : w27.cell? ⟨gb846, 1, none⟩ = some (.slice none 0 0) := (blk_cell BK846.out 1).trans rfl; have hfz29_0 := blk_frozen BK846.out 0; have hfz29_1 := blk_frozen BK846.out 1))
       refine bodyPost_ret (results_ct rfl _ _ gb846 81 #[.slice none 0 0, .slice none 0 0] (0, 0) _ rfl (by (with_reducible repeat (first | refine blk_drewN ?_ _ | refine blk_drew ?_ | refine blk_alloc ?_ _)); refine blk_put (cs := #[.slice none 0 0, .slice none 0 0]) ?_ 1 _ rfl; (with_reducible repeat (first | refine blk_drewN ?_ _ | refine blk_drew ?_ | refine blk_alloc ?_ _)); refine blk_put (cs := #[.slice none 0 0, .slice none 0 0]) ?_ 0 _ rfl; (with_reducible repeat (first | refine blk_drewN ?_ _ | refine blk_drew ?_ | refine blk_alloc ?_ _)); exact BK846.out) Try.underlying81 rfl (by kernel_rfl)) rfl ?_
       exact ⟨_, _, by first | rfl | (simp [errW_none, errW_some] <;> rfl) | (simp [*, errW_none, errW_some] <;> rfl), by first | exact Kd.R_nil _ _ _ _ _ | exact Kd.N_nil _ _ _ _ _ | exact Kd.V_nil _ _ _ _ _ | exact Kd.Q_nil _ _ _ _ _ | exact Kd.S_nil _ _ _ _ _, by first | exact Kd.R_nil _ _ _ _ _ | exact Kd.N_nil _ _ _ _ _ | exact Kd.V_nil _ _ _ _ _ | exact Kd.Q_nil _ _ _ _ _ | exact Kd.S_nil _ _ _ _ _, bel_⟩
      ·rw [if_neg c24] at H
       have c24b0 : decide (512 ≤ (l0_0.length : Int)) = false := decide_eq_false c24
       have c24b1 : decide (512 ≤ l0_0.length) = false := decide_eq_false (by omega)
       clear c24
       replace H := Option.bind_eq_some_iff.mp H
       obtain ⟨⟨t851, t854⟩, A300, H⟩ := H
       replace H : (some (t851, t854, 0)) = some (r1, r2, r3) := H
       have A30 := Aside0.mk A300
       clear A300
       simp only [Option.some.injEq, Prod.mk.injEq] at H
       obtain ⟨rfl, rfl, rfl⟩ := H
       have hnb31 := NB845_846.out
       have hnc31 := NB846_845.out
       have hcz32_0 : wc.cell? ⟨gb845, 0, none⟩ = some (.slice A0_0 l0_0.length c0_0) := (blk_cell BK845.out 0).trans rfl
       have hcz32_1 : wc.cell? ⟨gb845, 1, none⟩ = some (.slice A0_1 l0_1.length c0_1) := (blk_cell BK845.out 1).trans rfl
       have hfz32_0 := blk_frozen BK845.out 0
       have hfz32_1 := blk_frozen BK845.out 1
       go_wp2_with (first | ((with_reducible refine gate_callee (f := 89) rfl ?_); refine goesL_ (some 32) rfl rfl Try.func89 (by kernel_rfl) rfl #[.agg #[.slice A0_0 l0_0.length c0_0, .slice A0_1 l0_1.length c0_1], .string a1] rfl (by (try simp only [List.map_toArray, List.map_cons, List.map_nil]); first | done | rfl | (simp only [List.length_drop, List.length_take]; rfl)) ?_; (with_reducible refine (sequentref04_TypeOp.calls kj5 _ _ l0_0 _ _ l0_1 a1 t849 false _ ?side1 ?side2 ?side3 ?side4 A18.out).mono ?_); (case side1 => repeat (first | exact (Kd.C_below HR0_0.out HB.out) | (with_reducible refine Kd.C_alloc ?_ _) | (with_reducible refine Kd.C_drewN ?_ _) | (with_reducible refine Kd.C_drew ?_))); (case side2 => exact HC0_0.out); (case side3 => repeat (first | exact (Kd.C_below HR0_1.out HB.out) | (with_reducible refine Kd.C_alloc ?_ _) | (with_reducible refine Kd.C_drewN ?_ _) | (with_reducible refine Kd.C_drew ?_))); (case side4 => exact HC0_1.out); rintro e w33 ⟨rfl, hb⟩; refine ⟨_, rfl, ?_⟩; have n0_ := Aside0.mk (blk_below (g := gb845) (o := .cells #[.slice A0_0 l0_0.length c0_0, .slice A0_1 l0_1.length c0_1] 81 (0, 0)) (bk_ BK845) hb); have n1_ := Aside0.mk (blk_below (g := gb846) (o := .cells #[.slice none 0 0, .slice none 0 0] 81 (0, 0)) (bk_ BK846) hb); have n2_ := Aside0.mk (below_step bel_ hb); clear BK845; clear BK846; clear HB; have BK845 := n0_; have BK846 := n1_; have HB := n2_; clear n0_ n1_ n2_; (try clear hb); (try clear hb2); (try clear hk); (try clear hi); have hcz34_0 : w33.cell? ⟨gb845, 0, none⟩ = some (.slice A0_0 l0_0.length c0_0) := (blk_cell BK845.out 0).trans rfl; have hcz34_1 : w33.cell? ⟨gb845, 1, none⟩ = some (.slice A0_1 l0_1.length c0_1) := (blk_cell BK845.out 1).trans rfl; have hfz34_0 := blk_frozen BK845.out 0; have hfz34_1 := blk_frozen BK845.out 1) | ((with_reducible refine gate_callee (f := 90) rfl ?_); refine goesL_ (some 45) rfl rfl Try.func90 (by kernel_rfl) rfl #[.agg #[.slice A0_0 l0_0.length c0_0, .slice A0_1 l0_1.length c0_1], .string a1, .int .i64 a2] rfl (by (try simp only [List.map_toArray, List.map_cons, List.map_nil]); first | done | rfl | (simp only [List.length_drop, List.length_take]; rfl)) ?_; (with_reducible refine (sequentref04_WithType.calls kj5 _ _ l0_0 _ _ l0_1 a1 a2 t851 t854 _ ?side1 ?side2 ?side3 ?side4 A30.out).mono ?_); (case side1 => repeat (first | exact (Kd.C_below HR0_0.out HB.out) | (with_reducible refine Kd.C_alloc ?_ _) | (with_reducible refine Kd.C_drewN ?_ _) | (with_reducible refine Kd.C_drew ?_))); (case side2 => exact HC0_0.out); (case side3 => repeat (first | exact (Kd.C_below HR0_1.out HB.out) | (with_reducible refine Kd.C_alloc ?_ _) | (with_reducible refine Kd.C_drewN ?_ _) | (with_reducible refine Kd.C_drew ?_))); (case side4 => exact HC0_1.out); rintro e w35 ⟨v852, v855, rfl, ho0, ho1, hb⟩; refine ⟨_, rfl, ?_⟩; have n0_ := Aside0.mk (Kd.R_lower ho0 (below_size bel_)); have n1_ := Aside0.mk (Kd.R_lower ho1 (below_size bel_)); have n2_ := Aside0.mk (blk_below (g := gb845) (o := .cells #[.slice A0_0 l0_0.length c0_0, .slice A0_1 l0_1.length c0_1] 81 (0, 0)) (bk_ BK845) hb); have n3_ := Aside0.mk (blk_below (g := gb846) (o := .cells #[.slice none 0 0, .slice none 0 0] 81 (0, 0)) (bk_ BK846) hb); have n4_ := Aside0.mk (below_step bel_ hb); clear BK845; clear BK846; clear HB; have HO853 := n0_; have HO856 := n1_; have BK845 := n2_; have BK846 := n3_; have HB := n4_; clear n0_ n1_ n2_ n3_ n4_; (try clear hb); (try clear hb2); (try clear hk); (try clear hi); (try clear ho0); (try clear ho1); obtain ⟨Ao36, co36, eo36⟩ := Kd.R_slice HO853.out; subst eo36; have hcz37_0 : w35.cell? ⟨gb846, 0, none⟩ = some (.slice none 0 0) := (blk_cell BK846.out 0).trans rfl; have hcz37_1 : w35.cell? ⟨gb846, 1, none⟩ = some (.slice none 0 0) := (blk_cell BK846.out 1).trans rfl; have hfz37_0 := blk_frozen BK846.out 0; have hfz37_1 := blk_frozen BK846.out 1; obtain ⟨Ao38, co38, eo38⟩ := Kd.R_slice HO856.out; subst eo38))
       refine bodyPost_ret (results_ct rfl _ _ gb846 81 #[.slice Ao36 t851.length co36, .slice Ao38 t854.length co38] (0, 0) _ rfl (by (with_reducible repeat (first | refine blk_drewN ?_ _ | refine blk_drew ?_ | refine blk_alloc ?_ _)); refine blk_put (cs := #[.slice Ao36 t851.length co36, .slice none 0 0]) ?_ 1 _ rfl; (with_reducible repeat (first | refine blk_drewN ?_ _ | refine blk_drew ?_ | refine blk_alloc ?_ _)); refine blk_put (cs := #[.slice none 0 0, .slice none 0 0]) ?_ 0 _ rfl; (with_reducible repeat (first | refine blk_drewN ?_ _ | refine blk_drew ?_ | refine blk_alloc ?_ _)); exact BK846.out) Try.underlying81 rfl (by kernel_rfl)) rfl ?_
       exact ⟨_, _, by first | rfl | (simp [errW_none, errW_some] <;> rfl) | (simp [*, errW_none, errW_some] <;> rfl), by (with_reducible repeat (first | apply Kd.R_alloc | apply Kd.R_drewN | apply Kd.R_drew)); exact Kd.R_mono (Kd.R_far (p := ⟨gb846, 1, none⟩) (Kd.R_far (p := ⟨gb846, 0, none⟩) (Kd.R_types HO853.out BK846.out (by decide)) (fun _ hk => hk.2) (.slice Ao36 t851.length co36)) (fun _ hk => hk.2) (.slice Ao38 t854.length co38)) (fun _ hk => trivial), by (with_reducible repeat (first | apply Kd.R_alloc | apply Kd.R_drewN | apply Kd.R_drew)); exact Kd.R_mono (Kd.R_far (p := ⟨gb846, 1, none⟩) (Kd.R_far (p := ⟨gb846, 0, none⟩) (Kd.R_types HO856.out BK846.out (by decide)) (fun _ hk => hk.2) (.slice Ao36 t851.length co36)) (fun _ hk => hk.2) (.slice Ao38 t854.length co38)) (fun _ hk => trivial), bel_⟩
 ·rw [if_neg c5] at H
  have c5b0 : (t847 == 0) = false := beq_eq_false_iff_ne.mpr c5
  have c5b1 : (t847 != 0) = true := bne_iff_ne.mpr c5
  simp only [Option.some.injEq, Prod.mk.injEq] at H
  obtain ⟨rfl, rfl, rfl⟩ := H
  go_enter Try.func52, Try.ntmps52
  go_wp2_with (first | ((with_reducible refine gate_dst (N := 3) rfl ?_); refine box_event ?hg (N := 3) ?hd (cs := #[.slice A0_0 l0_0.length c0_0, .slice A0_1 l0_1.length c0_1]) (t := 81) ?hr ?_; (case hd => rfl); (case hg => rfl); (case hr => first | (go_simp; done) | (go_simp; rfl)); intro gb845 hg w39 hbox hb; have n0_ := Aside0.mk (below_step bel_ hb); have n1_ := Aside0.mk (hbox); have n2_ := Aside0.mk ((by rw [hg]; exact (below_size bel_) : w.heap.size ≤ gb845)); have n3_ := Aside0.mk ((by rw [hg]; exact (below_size bel_) : w.heap.size ≤ gb845)); clear HB; have HB := n0_; have BK845 := n1_; have GW845 := n2_; have GE845 := n3_; clear n0_ n1_ n2_ n3_; clear hb hbox hg) | ((with_reducible refine gate_dst (N := 6) rfl ?_); refine box_event ?hg (N := 6) ?hd (cs := #[.slice none 0 0, .slice none 0 0]) (t := 81) ?hr ?_; (case hd => rfl); (case hg => rfl); (case hr => first | (go_simp; done) | (go_simp; rfl)); intro gb846 hg w40 hbox hb; have n0_ := Aside0.mk (blk_below (g := gb845) (o := .cells #[.slice A0_0 l0_0.length c0_0, .slice A0_1 l0_1.length c0_1] 81 (0, 0)) (bk_ BK845) hb); have n1_ := Aside0.mk (below_step bel_ hb); have n2_ := Aside0.mk (hbox); have n3_ := Aside0.mk ((by rw [hg]; exact (below_size bel_) : w.heap.size ≤ gb846)); have n4_ := Aside0.mk ((by rw [hg]; exact (below_size bel_) : w.heap.size ≤ gb846)); have n5_ := Aside0.mk ((by rw [hg]; exact Nat.ne_of_lt (blk_lt (g := gb845) (o := .cells #[.slice A0_0 l0_0.length c0_0, .slice A0_1 l0_1.length c0_1] 81 (0, 0)) (bk_ BK845)) : gb845 ≠ gb846)); have n6_ := Aside0.mk ((by rw [hg]; exact Nat.ne_of_gt (blk_lt (g := gb845) (o := .cells #[.slice A0_0 l0_0.length c0_0, .slice A0_1 l0_1.length c0_1] 81 (0, 0)) (bk_ BK845)) : gb846 ≠ gb845)); clear BK845; clear HB; have BK845 := n0_; have HB := n1_; have BK846 := n2_; have GW846 := n3_; have GE846 := n4_; have NB845_846 := n5_; have NB846_845 := n6_; clear n0_ n1_ n2_ n3_ n4_ n5_ n6_; clear hb hbox hg; have hnb41 := NB845_846.out; have hnc41 := NB846_845.out; have hcz42_0 : w40.cell? ⟨gb845, 0, none⟩ = some (.slice A0_0 l0_0.length c0_0) := (blk_cell BK845.out 0).trans rfl; have hcz42_1 : w40.cell? ⟨gb845, 1, none⟩ = some (.slice A0_1 l0_1.length c0_1) := (blk_cell BK845.out 1).trans rfl; have hfz42_0 := blk_frozen BK845.out 0; have hfz42_1 := blk_frozen BK845.out 1) | ((with_reducible refine gate_callee (f := 87) rfl ?_); refine goesL_ (some 12) rfl rfl Try.func87 (by kernel_rfl) rfl #[.agg #[.slice A0_0 l0_0.length c0_0, .slice A0_1 l0_1.length c0_1]] rfl (by (try simp only [List.map_toArray, List.map_cons, List.map_nil]); first | done | rfl | (simp only [List.length_drop, List.length_take]; rfl)) ?_; (with_reducible refine (sequentref04_Check.calls k _ _ l0_0 _ _ l0_1 t847 _ ?side1 ?side2 ?side3 ?side4 A4.out).mono ?_); (case side1 => repeat (first | exact (Kd.C_below HR0_0.out HB.out) | (with_reducible refine Kd.C_alloc ?_ _) | (with_reducible refine Kd.C_drewN ?_ _) | (with_reducible refine Kd.C_drew ?_))); (case side2 => exact HC0_0.out); (case side3 => repeat (first | exact (Kd.C_below HR0_1.out HB.out) | (with_reducible refine Kd.C_alloc ?_ _) | (with_reducible refine Kd.C_drewN ?_ _) | (with_reducible refine Kd.C_drew ?_))); (case side4 => exact HC0_1.out); rintro e w43 ⟨rfl, hb⟩; refine ⟨_, rfl, ?_⟩; have n0_ := Aside0.mk (blk_below (g := gb845) (o := .cells #[.slice A0_0 l0_0.length c0_0, .slice A0_1 l0_1.length c0_1] 81 (0, 0)) (bk_ BK845) hb); have n1_ := Aside0.mk (blk_below (g := gb846) (o := .cells #[.slice none 0 0, .slice none 0 0] 81 (0, 0)) (bk_ BK846) hb); have n2_ := Aside0.mk (below_step bel_ hb); clear BK845; clear BK846; clear HB; have BK845 := n0_; have BK846 := n1_; have HB := n2_; clear n0_ n1_ n2_; (try clear hb); (try clear hb2); (try clear hk); (try clear hi); have hcz44_0 : w43.cell? ⟨gb846, 0, none⟩ = some (.slice none 0 0) := (blk_cell BK846.out 0).trans rfl; have hcz44_1 : w43.cell? ⟨gb846, 1, none⟩ = some (.slice none 0 0) := (blk_cell BK846.out 1).trans rfl; have hfz44_0 := blk_frozen BK846.out 0; have hfz44_1 := blk_frozen BK846.out 1))
  refine bodyPost_ret (results_ct rfl _ _ gb846 81 #[.slice none 0 0, .slice none 0 0] (0, 0) _ rfl (by (with_reducible repeat (first | refine blk_drewN ?_ _ | refine blk_drew ?_ | refine blk_alloc ?_ _)); refine blk_put (cs := #[.slice none 0 0, .slice none 0 0]) ?_ 1 _ rfl; (with_reducible repeat (first | refine blk_drewN ?_ _ | refine blk_drew ?_ | refine blk_alloc ?_ _)); refine blk_put (cs := #[.slice none 0 0, .slice none 0 0]) ?_ 0 _ rfl; (with_reducible repeat (first | refine blk_drewN ?_ _ | refine blk_drew ?_ | refine blk_alloc ?_ _)); exact BK846.out) Try.underlying81 rfl (by kernel_rfl)) rfl ?_
  exact ⟨_, _, by first | rfl | (simp [errW_none, errW_some] <;> rfl) | (simp [*, errW_none, errW_some] <;> rfl), by first | exact Kd.R_nil _ _ _ _ _ | exact Kd.N_nil _ _ _ _ _ | exact Kd.V_nil _ _ _ _ _ | exact Kd.Q_nil _ _ _ _ _ | exact Kd.S_nil _ _ _ _ _, by first | exact Kd.R_nil _ _ _ _ _ | exact Kd.N_nil _ _ _ _ _ | exact Kd.V_nil _ _ _ _ _ | exact Kd.Q_nil _ _ _ _ _ | exact Kd.S_nil _ _ _ _ _, bel_⟩

end Go.Proofs.Ytgnklkmifcmlhaa.Q
-- written by a program of this session (wip/tools/myprint.py) out of the translation
namespace Go.Proofs.Ytgnklkmifcmlhaa.Q
open Go.RowKit Go.Proofs.YtgnklkmifcmlhaaW.PrintWords Go.Proofs.YtgnklkmifcmlhaaW.PrintLast Go.Proofs.YtgnklkmifcmlhaaW.PrintMore
attribute [local go_sem] max2_int min2_int max_two min_two max_three min_three max_four min_four   -- for this text's walks alone
set_option linter.unusedVariables false
set_option linter.unusedSimpArgs false

/-! ### sequentref04_Great: function 49 -/
mutual
def sequentref04_Great.j0 : Nat → Bool → List (S124) → List (S92) → Option (Bool)
 | 0, _, _, _ => none
 | k + 1, x26, x783000, x783001 => if x26 = true then (some true) else (sequentref04_Great.l0 k 0 x783000 x783001)
def sequentref04_Great.l0 : Nat → Int → List (S124) → List (S92) → Option (Bool)
 | 0, _, _, _ => none
 | k + 1, x3, x783000, x783001 => if x3 < (x783001.length : Int) then (if 0 ≤ x3 then ((sequentref01_Great.f k ((rd_T92 x783001 x3).f1.f0) ((rd_T92 x783001 x3).f1.f1) ((rd_T92 x783001 x3).f1.f2)).bind fun t784 => (if t784 = true then (some true) else (if (((rd_T92 x783001 x3).f0).size : Int) > 1000 then (some true) else (sequentref04_Great.l0 k (wrap64 (x3 + 1)) x783000 x783001)))) else (none)) else (sequentref04_Great.l1 k 0 x783000 x783001)
def sequentref04_Great.l1 : Nat → Int → List (S124) → List (S92) → Option (Bool)
 | 0, _, _, _ => none
 | k + 1, x4, x783000, x783001 => if x4 < (x783000.length : Int) then (if 0 ≤ x4 then (if (((rd_T124 x783000 x4).f0).size : Int) > 1000 then (some true) else (sequentref04_Great.l1 k (wrap64 (x4 + 1)) x783000 x783001)) else (none)) else (some false)
end
def sequentref04_Great.f (k : Nat) (l0_0 : List (S124)) (l0_1 : List (S92)) : Option (Bool) := if (l0_0.length : Int) > 600 then (sequentref04_Great.j0 k true l0_0 l0_1) else (if (l0_1.length : Int) > 600 then (sequentref04_Great.j0 k true l0_0 l0_1) else (if (l0_1.length : Int) > 100 then (sequentref04_Great.j0 k (decide ((l0_1.length : Int) ≤ 512)) l0_0 l0_1) else (sequentref04_Great.j0 k false l0_0 l0_1)))
set_option maxHeartbeats 8000000 in
set_option maxRecDepth 100000 in
theorem sequentref04_Great.calls (k : Nat) (A0_0 : Option Addr) (c0_0 : Nat) (l0_0 : List (S124)) (A0_1 : Option Addr) (c0_1 : Nat) (l0_1 : List (S92)) (r : Bool) (w : World) (hr0_0 : Kd.C k124 w A0_0 l0_0.length l0_0) (hc0_0 : l0_0.length ≤ c0_0) (hr0_1 : Kd.C k92 w A0_1 l0_1.length l0_1) (hc0_1 : l0_1.length ≤ c0_1) (h : sequentref04_Great.f k l0_0 l0_1 = some r) :
 Calls Try.prog 49 #[.agg #[.slice A0_0 l0_0.length c0_0, .slice A0_1 l0_1.length c0_1]] w fun e w' => e = .returned (.bool r) ∧ Below w.heap.size w w' := by
 have hu81 := Try.underlying81
 have hu25 := Try.underlying25
 have HR0_0 := Aside0.mk hr0_0
 have HC0_0 := Aside0.mk hc0_0
 clear hr0_0 hc0_0
 have HR0_1 := Aside0.mk hr0_1
 have HC0_1 := Aside0.mk hc0_1
 clear hr0_1 hc0_1
 have HB := Aside0.mk (Below.refl w.heap.size w)
 have H : (if (l0_0.length : Int) > 600 then (sequentref04_Great.j0 k true l0_0 l0_1) else (if (l0_1.length : Int) > 600 then (sequentref04_Great.j0 k true l0_0 l0_1) else (if (l0_1.length : Int) > 100 then (sequentref04_Great.j0 k (decide ((l0_1.length : Int) ≤ 512)) l0_0 l0_1) else (sequentref04_Great.j0 k false l0_0 l0_1)))) = some r := h
 clear h
 have HC2 := Aside0.mk H
 clear H
 go_enter Try.func49, Try.ntmps49
 go_upto_region 1 with (first | ((with_reducible refine gate_dst (N := 1) rfl ?_); (try (refine gate_guard (by rfl) ?_; dsimp only)); refine box_event ?hg (N := 1) ?hd (cs := #[.slice A0_0 l0_0.length c0_0, .slice A0_1 l0_1.length c0_1]) (t := 81) ?hr ?_; (case hd => rfl); (case hg => rfl); (case hr => first | (go_simp; done) | (go_simp; rfl)); intro gb782 hg w3 hbox hb; have n0_ := Aside0.mk (below_step bel_ hb); have n1_ := Aside0.mk (hbox); have n2_ := Aside0.mk ((by rw [hg]; exact (below_size bel_) : w.heap.size ≤ gb782)); have n3_ := Aside0.mk ((by rw [hg]; exact (below_size bel_) : w.heap.size ≤ gb782)); clear HB; have HB := n0_; have BK782 := n1_; have GW782 := n2_; have GE782 := n3_; clear n0_ n1_ n2_ n3_; clear hb hbox hg))
 (try simp only [Act.put, List.setIfInBounds_toArray, List.set_cons_zero, List.set_cons_succ])
 go_cut [26] (fun v26 wc => ∃ (kq : Nat) (x26_1 : Bool), v26 = .bool x26_1 ∧ Aside0 (sequentref04_Great.j0 kq x26_1 l0_0 l0_1 = some r) ∧ Aside0 (kq ≤ k) ∧ Aside0 (wc.heap[gb782]? = some (.cells #[(.slice A0_0 l0_0.length c0_0), (.slice A0_1 l0_1.length c0_1)] 81 (0, 0))) ∧ Aside0 (Below w.heap.size w wc))
 case first =>
  have H := HC2.out
  clear HC2
  by_cases c4 : (l0_0.length : Int) > 600
  ·rw [if_pos c4] at H
   have c4b0 : decide (600 < (l0_0.length : Int)) = true := decide_eq_true c4
   have c4b1 : decide (600 < l0_0.length) = true := decide_eq_true (by omega)
   clear c4
   (first | rw [c4b0] | (simp only [i64_w, i32_w]; rw [c4b0]) | skip)
   have H' := Aside0.mk H
   clear H
   have hcz5_0 : w3.cell? ⟨gb782, 0, none⟩ = some (.slice A0_0 l0_0.length c0_0) := (blk_cell BK782.out 0).trans rfl
   have hcz5_1 : w3.cell? ⟨gb782, 1, none⟩ = some (.slice A0_1 l0_1.length c0_1) := (blk_cell BK782.out 1).trans rfl
   have hfz5_0 := blk_frozen BK782.out 0
   have hfz5_1 := blk_frozen BK782.out 1
   go_wp2
   go_meet
   case rel => exact ⟨_, (true), (by first | rfl | (simp; done) | (simp [*]; done)), H', ⟨by first | omega | exact Nat.le_refl _⟩, ⟨bk_ BK782⟩, ⟨bel_⟩⟩
  ·rw [if_neg c4] at H
   have c4b0 : decide (600 < (l0_0.length : Int)) = false := decide_eq_false c4
   have c4b1 : decide (600 < l0_0.length) = false := decide_eq_false (by omega)
   clear c4
   (first | rw [c4b0] | (simp only [i64_w, i32_w]; rw [c4b0]) | skip)
   by_cases c6 : (l0_1.length : Int) > 600
   ·rw [if_pos c6] at H
    have c6b0 : decide (600 < (l0_1.length : Int)) = true := decide_eq_true c6
    have c6b1 : decide (600 < l0_1.length) = true := decide_eq_true (by omega)
    clear c6
    have H' := Aside0.mk H
    clear H
    have hcz7_0 : w3.cell? ⟨gb782, 0, none⟩ = some (.slice A0_0 l0_0.length c0_0) := (blk_cell BK782.out 0).trans rfl
    have hcz7_1 : w3.cell? ⟨gb782, 1, none⟩ = some (.slice A0_1 l0_1.length c0_1) := (blk_cell BK782.out 1).trans rfl
    have hfz7_0 := blk_frozen BK782.out 0
    have hfz7_1 := blk_frozen BK782.out 1
    go_wp2
    go_meet
    case rel => exact ⟨_, (true), (by first | rfl | (simp; done) | (simp [*]; done)), H', ⟨by first | omega | exact Nat.le_refl _⟩, ⟨bk_ BK782⟩, ⟨bel_⟩⟩
   ·rw [if_neg c6] at H
    have c6b0 : decide (600 < (l0_1.length : Int)) = false := decide_eq_false c6
    have c6b1 : decide (600 < l0_1.length) = false := decide_eq_false (by omega)
    clear c6
    by_cases c8 : (l0_1.length : Int) > 100
    ·rw [if_pos c8] at H
     have c8b0 : decide (100 < (l0_1.length : Int)) = true := decide_eq_true c8
     have c8b1 : decide (100 < l0_1.length) = true := decide_eq_true (by omega)
     clear c8
     have H' := Aside0.mk H
     clear H
     have hcz9_0 : w3.cell? ⟨gb782, 0, none⟩ = some (.slice A0_0 l0_0.length c0_0) := (blk_cell BK782.out 0).trans rfl
     have hcz9_1 : w3.cell? ⟨gb782, 1, none⟩ = some (.slice A0_1 l0_1.length c0_1) := (blk_cell BK782.out 1).trans rfl
     have hfz9_0 := blk_frozen BK782.out 0
     have hfz9_1 := blk_frozen BK782.out 1
     go_wp2
     go_meet
     case rel => exact ⟨_, (decide ((l0_1.length : Int) ≤ 512)), (by first | rfl | (simp; done) | (simp [*]; done)), H', ⟨by first | omega | exact Nat.le_refl _⟩, ⟨bk_ BK782⟩, ⟨bel_⟩⟩
    ·rw [if_neg c8] at H
     have c8b0 : decide (100 < (l0_1.length : Int)) = false := decide_eq_false c8
     have c8b1 : decide (100 < l0_1.length) = false := decide_eq_false (by omega)
     clear c8
     have H' := Aside0.mk H
     clear H
     have hcz10_0 : w3.cell? ⟨gb782, 0, none⟩ = some (.slice A0_0 l0_0.length c0_0) := (blk_cell BK782.out 0).trans rfl
     have hcz10_1 : w3.cell? ⟨gb782, 1, none⟩ = some (.slice A0_1 l0_1.length c0_1) := (blk_cell BK782.out 1).trans rfl
     have hfz10_0 := blk_frozen BK782.out 0
     have hfz10_1 := blk_frozen BK782.out 1
     go_wp2
     go_meet
     case rel => exact ⟨_, (false), (by first | rfl | (simp; done) | (simp [*]; done)), H', ⟨by first | omega | exact Nat.le_refl _⟩, ⟨bk_ BK782⟩, ⟨bel_⟩⟩
 case rest =>
  clear HC2
  try clear p2
  try clear c4
  try clear c4b0
  try clear c4b1
  try clear c6
  try clear c6b0
  try clear c6b1
  try clear c8
  try clear c8b0
  try clear c8b1
  try clear hcz10_0
  try clear hcz10_1
  try clear hcz5_0
  try clear hcz5_1
  try clear hcz7_0
  try clear hcz7_1
  try clear hcz9_0
  try clear hcz9_1
  try clear hfz10_0
  try clear hfz10_1
  try clear hfz5_0
  try clear hfz5_1
  try clear hfz7_0
  try clear hfz7_1
  try clear hfz9_0
  try clear hfz9_1
  obtain ⟨kq, x26_1, rfl, HA, HJ1, BK782, HB⟩ := hcut
  cases kq with
  | zero => exact absurd HA.out (by simp [sequentref04_Great.j0])
  | succ kj1 =>
   have H := HA.out
   clear HA
   simp only [sequentref04_Great.j0] at H
   by_cases c11 : x26_1 = true
   ·subst c11
    have H1 : (some true) = some r := by rw [if_pos rfl] at H; exact H
    clear H
    have H := H1
    clear H1
    obtain rfl := Option.some.inj H
    go_wp2
    go_ret
    exact ⟨by first | rfl | (simp [errW_none, errW_some] <;> rfl) | (simp [*, errW_none, errW_some] <;> rfl), bel_⟩
   ·replace c11 := Bool.eq_false_iff.mpr c11
    subst c11
    have H1 : (sequentref04_Great.l0 kj1 0 l0_0 l0_1) = some r := by rw [if_neg (show ¬ (false = true) by decide)] at H; exact H
    clear H
    have H := H1
    clear H1
    have H' := Aside0.mk H
    clear H
    go_wp2
    go_loopg [3] kj1 (fun kq v3 w' => ∃ (x3_2 : Int), v3 = .int .i64 x3_2 ∧ Aside0 (sequentref04_Great.l0 kq x3_2 l0_0 l0_1 = some r) ∧ Aside0 (kq ≤ kj1) ∧ Aside0 (w'.heap[gb782]? = some (.cells #[(.slice A0_0 l0_0.length c0_0), (.slice A0_1 l0_1.length c0_1)] 81 (0, 0))) ∧ Aside0 (Below w.heap.size w w'))
    case atStart => exact ⟨(0), (by first | rfl | (simp; done) | (simp [*]; done)), H', ⟨Nat.le_refl _⟩, ⟨bk_ BK782⟩, ⟨bel_⟩⟩
    case round =>
     clear H'
     try clear c1
     try clear p2
     try clear c4
     try clear c4b0
     try clear c4b1
     try clear c6
     try clear c6b0
     try clear c6b1
     try clear c8
     try clear c8b0
     try clear c8b1
     try clear c11
     try clear hcz10_0
     try clear hcz10_1
     try clear hcz5_0
     try clear hcz5_1
     try clear hcz7_0
     try clear hcz7_1
     try clear hcz9_0
     try clear hcz9_1
     try clear hfz10_0
     try clear hfz10_1
     try clear hfz5_0
     try clear hfz5_1
     try clear hfz7_0
     try clear hfz7_1
     try clear hfz9_0
     try clear hfz9_1
     try clear p2
     obtain ⟨x3_2, rfl, HA, HK2, BK782, HB⟩ := hrel
     cases gk with
     | zero => exact absurd HA.out (by simp [sequentref04_Great.l0])
     | succ k2 =>
      have H := HA.out
      clear HA
      simp only [sequentref04_Great.l0] at H
      by_cases c12 : x3_2 < (l0_1.length : Int)
      ·rw [if_pos c12] at H
       have c12b0 : decide (x3_2 < (l0_1.length : Int)) = true := decide_eq_true c12
       clear c12
       by_cases c13 : 0 ≤ x3_2
       ·rw [if_pos c13] at H
        have c13b0 : decide (0 ≤ x3_2) = true := decide_eq_true c13
        clear c13
        replace H := Option.bind_eq_some_iff.mp H
        obtain ⟨t784, A140, H⟩ := H
        replace H : (if t784 = true then (some true) else (if (((rd_T92 l0_1 x3_2).f0).size : Int) > 1000 then (some true) else (sequentref04_Great.l0 k2 (wrap64 (x3_2 + 1)) l0_0 l0_1))) = some r := H
        have A14 := Aside0.mk A140
        clear A140
        by_cases c15 : t784 = true
        ·subst c15
         have H1 : (some true) = some r := by rw [if_pos rfl] at H; exact H
         clear H
         have H := H1
         clear H1
         obtain rfl := Option.some.inj H
         have hcz16_0 : wr.cell? ⟨gb782, 0, none⟩ = some (.slice A0_0 l0_0.length c0_0) := (blk_cell BK782.out 0).trans rfl
         have hcz16_1 : wr.cell? ⟨gb782, 1, none⟩ = some (.slice A0_1 l0_1.length c0_1) := (blk_cell BK782.out 1).trans rfl
         have hfz16_0 := blk_frozen BK782.out 0
         have hfz16_1 := blk_frozen BK782.out 1
         have p783 : 0 ≤ (x3_2 : Int) := dq_
         have q783 : x3_2 < (l0_1.length : Int) := dq_
         obtain ⟨ad783, A783_3, c783_3, e783, hx783_0, hx783_1, hx783_2, hx783_3, hl783_3, hi783_3⟩ := at_T92 HR0_1.out x3_2 p783 q783
         cases e783
         replace hx783_0 := pw_cell_below HB.out hx783_0
         replace hx783_1 := pw_cell_below HB.out hx783_1
         replace hx783_2 := pw_cell_below HB.out hx783_2
         replace hx783_3 := pw_cell_below HB.out hx783_3
         have HR783_3 := Aside0.mk hi783_3
         have HC783_3 := Aside0.mk hl783_3
         clear hi783_3 hl783_3
         replace p783 := eq_true p783
         replace q783 := eq_true q783
         go_wp2_with (first | ((with_reducible refine gate_callee (f := 14) rfl ?_); refine goesL_ (some 40) rfl rfl Try.func14 (by kernel_rfl) rfl #[.agg #[.bool ((rd_T92 l0_1 x3_2).f1.f0), .string ((rd_T92 l0_1 x3_2).f1.f1), .slice A783_3 ((rd_T92 l0_1 x3_2).f1.f2).length c783_3]] rfl (by (try simp only [List.map_toArray, List.map_cons, List.map_nil]); first | done | rfl | (simp only [List.length_drop, List.length_take]; rfl)) ?_; (with_reducible refine (sequentref01_Great.calls k2 ((rd_T92 l0_1 x3_2).f1.f0) ((rd_T92 l0_1 x3_2).f1.f1) _ _ ((rd_T92 l0_1 x3_2).f1.f2) true _ ?side1 ?side2 A14.out).mono ?_); (case side1 => repeat (first | exact (Kd.C_below HR783_3.out HB.out) | (with_reducible refine Kd.C_alloc ?_ _) | (with_reducible refine Kd.C_drewN ?_ _) | (with_reducible refine Kd.C_drew ?_))); (case side2 => exact HC783_3.out); rintro e w17 ⟨rfl, hb⟩; refine ⟨_, rfl, ?_⟩; have n0_ := Aside0.mk (blk_below (g := gb782) (o := .cells #[.slice A0_0 l0_0.length c0_0, .slice (some ad783) l0_1.length c0_1] 81 (0, 0)) (bk_ BK782) hb); have n1_ := Aside0.mk (below_step bel_ hb); clear BK782; clear HB; have BK782 := n0_; have HB := n1_; clear n0_ n1_; (try clear hb); (try clear hb2); (try clear hk); (try clear hi)))
         go_ret
         exact ⟨by first | rfl | (simp [errW_none, errW_some] <;> rfl) | (simp [*, errW_none, errW_some] <;> rfl), bel_⟩
        ·replace c15 := Bool.eq_false_iff.mpr c15
         subst c15
         have H1 : (if (((rd_T92 l0_1 x3_2).f0).size : Int) > 1000 then (some true) else (sequentref04_Great.l0 k2 (wrap64 (x3_2 + 1)) l0_0 l0_1)) = some r := by rw [if_neg (show ¬ (false = true) by decide)] at H; exact H
         clear H
         have H := H1
         clear H1
         by_cases c18 : (((rd_T92 l0_1 x3_2).f0).size : Int) > 1000
         ·rw [if_pos c18] at H
          have c18b0 : decide (1000 < (((rd_T92 l0_1 x3_2).f0).size : Int)) = true := decide_eq_true c18
          have c18b1 : decide (1000 < ((rd_T92 l0_1 x3_2).f0).size) = true := decide_eq_true (by omega)
          clear c18
          obtain rfl := Option.some.inj H
          have hcz19_0 : wr.cell? ⟨gb782, 0, none⟩ = some (.slice A0_0 l0_0.length c0_0) := (blk_cell BK782.out 0).trans rfl
          have hcz19_1 : wr.cell? ⟨gb782, 1, none⟩ = some (.slice A0_1 l0_1.length c0_1) := (blk_cell BK782.out 1).trans rfl
          have hfz19_0 := blk_frozen BK782.out 0
          have hfz19_1 := blk_frozen BK782.out 1
          have p783 : 0 ≤ (x3_2 : Int) := dq_
          have q783 : x3_2 < (l0_1.length : Int) := dq_
          obtain ⟨ad783, A783_3, c783_3, e783, hx783_0, hx783_1, hx783_2, hx783_3, hl783_3, hi783_3⟩ := at_T92 HR0_1.out x3_2 p783 q783
          cases e783
          replace hx783_0 := pw_cell_below HB.out hx783_0
          replace hx783_1 := pw_cell_below HB.out hx783_1
          replace hx783_2 := pw_cell_below HB.out hx783_2
          replace hx783_3 := pw_cell_below HB.out hx783_3
          have HR783_3 := Aside0.mk hi783_3
          have HC783_3 := Aside0.mk hl783_3
          clear hi783_3 hl783_3
          replace p783 := eq_true p783
          replace q783 := eq_true q783
          go_wp2_with (first | ((with_reducible refine gate_callee (f := 14) rfl ?_); refine goesL_ (some 40) rfl rfl Try.func14 (by kernel_rfl) rfl #[.agg #[.bool ((rd_T92 l0_1 x3_2).f1.f0), .string ((rd_T92 l0_1 x3_2).f1.f1), .slice A783_3 ((rd_T92 l0_1 x3_2).f1.f2).length c783_3]] rfl (by (try simp only [List.map_toArray, List.map_cons, List.map_nil]); first | done | rfl | (simp only [List.length_drop, List.length_take]; rfl)) ?_; (with_reducible refine (sequentref01_Great.calls k2 ((rd_T92 l0_1 x3_2).f1.f0) ((rd_T92 l0_1 x3_2).f1.f1) _ _ ((rd_T92 l0_1 x3_2).f1.f2) false _ ?side1 ?side2 A14.out).mono ?_); (case side1 => repeat (first | exact (Kd.C_below HR783_3.out HB.out) | (with_reducible refine Kd.C_alloc ?_ _) | (with_reducible refine Kd.C_drewN ?_ _) | (with_reducible refine Kd.C_drew ?_))); (case side2 => exact HC783_3.out); rintro e w20 ⟨rfl, hb⟩; refine ⟨_, rfl, ?_⟩; have n0_ := Aside0.mk (blk_below (g := gb782) (o := .cells #[.slice A0_0 l0_0.length c0_0, .slice (some ad783) l0_1.length c0_1] 81 (0, 0)) (bk_ BK782) hb); have n1_ := Aside0.mk (below_step bel_ hb); clear BK782; clear HB; have BK782 := n0_; have HB := n1_; clear n0_ n1_; (try clear hb); (try clear hb2); (try clear hk); (try clear hi); have hcz21_0 : w20.cell? ⟨gb782, 0, none⟩ = some (.slice A0_0 l0_0.length c0_0) := (blk_cell BK782.out 0).trans rfl; have hcz21_1 : w20.cell? ⟨gb782, 1, none⟩ = some (.slice (some ad783) l0_1.length c0_1) := (blk_cell BK782.out 1).trans rfl; have hfz21_0 := blk_frozen BK782.out 0; have hfz21_1 := blk_frozen BK782.out 1; have p785 : 0 ≤ (x3_2 : Int) := dq_; have q785 : x3_2 < (l0_1.length : Int) := dq_; obtain ⟨ad785, A785_3, c785_3, e785, hx785_0, hx785_1, hx785_2, hx785_3, hl785_3, hi785_3⟩ := at_T92 HR0_1.out x3_2 p785 q785; obtain rfl : ad783 = ad785 := (by injection e785); replace hx785_0 := pw_cell_below HB.out hx785_0; replace hx785_1 := pw_cell_below HB.out hx785_1; replace hx785_2 := pw_cell_below HB.out hx785_2; replace hx785_3 := pw_cell_below HB.out hx785_3; have HR785_3 := Aside0.mk hi785_3; have HC785_3 := Aside0.mk hl785_3; clear hi785_3 hl785_3; replace p785 := eq_true p785; replace q785 := eq_true q785))
          go_ret
          exact ⟨by first | rfl | (simp [errW_none, errW_some] <;> rfl) | (simp [*, errW_none, errW_some] <;> rfl), bel_⟩
         ·rw [if_neg c18] at H
          have c18b0 : decide (1000 < (((rd_T92 l0_1 x3_2).f0).size : Int)) = false := decide_eq_false c18
          have c18b1 : decide (1000 < ((rd_T92 l0_1 x3_2).f0).size) = false := decide_eq_false (by omega)
          clear c18
          have H' := Aside0.mk H
          clear H
          have hcz22_0 : wr.cell? ⟨gb782, 0, none⟩ = some (.slice A0_0 l0_0.length c0_0) := (blk_cell BK782.out 0).trans rfl
          have hcz22_1 : wr.cell? ⟨gb782, 1, none⟩ = some (.slice A0_1 l0_1.length c0_1) := (blk_cell BK782.out 1).trans rfl
          have hfz22_0 := blk_frozen BK782.out 0
          have hfz22_1 := blk_frozen BK782.out 1
          have p783 : 0 ≤ (x3_2 : Int) := dq_
          have q783 : x3_2 < (l0_1.length : Int) := dq_
          obtain ⟨ad783, A783_3, c783_3, e783, hx783_0, hx783_1, hx783_2, hx783_3, hl783_3, hi783_3⟩ := at_T92 HR0_1.out x3_2 p783 q783
          cases e783
          replace hx783_0 := pw_cell_below HB.out hx783_0
          replace hx783_1 := pw_cell_below HB.out hx783_1
          replace hx783_2 := pw_cell_below HB.out hx783_2
          replace hx783_3 := pw_cell_below HB.out hx783_3
          have HR783_3 := Aside0.mk hi783_3
          have HC783_3 := Aside0.mk hl783_3
          clear hi783_3 hl783_3
          replace p783 := eq_true p783
          replace q783 := eq_true q783
          go_wp2_with (first | ((with_reducible refine gate_callee (f := 14) rfl ?_); refine goesL_ (some 40) rfl rfl Try.func14 (by kernel_rfl) rfl #[.agg #[.bool ((rd_T92 l0_1 x3_2).f1.f0), .string ((rd_T92 l0_1 x3_2).f1.f1), .slice A783_3 ((rd_T92 l0_1 x3_2).f1.f2).length c783_3]] rfl (by (try simp only [List.map_toArray, List.map_cons, List.map_nil]); first | done | rfl | (simp only [List.length_drop, List.length_take]; rfl)) ?_; (with_reducible refine (sequentref01_Great.calls k2 ((rd_T92 l0_1 x3_2).f1.f0) ((rd_T92 l0_1 x3_2).f1.f1) _ _ ((rd_T92 l0_1 x3_2).f1.f2) false _ ?side1 ?side2 A14.out).mono ?_); (case side1 => repeat (first | exact (Kd.C_below HR783_3.out HB.out) | (with_reducible refine Kd.C_alloc ?_ _) | (with_reducible refine Kd.C_drewN ?_ _) | (with_reducible refine Kd.C_drew ?_))); (case side2 => exact HC783_3.out); rintro e w23 ⟨rfl, hb⟩; refine ⟨_, rfl, ?_⟩; have n0_ := Aside0.mk (blk_below (g := gb782) (o := .cells #[.slice A0_0 l0_0.length c0_0, .slice (some ad783) l0_1.length c0_1] 81 (0, 0)) (bk_ BK782) hb); have n1_ := Aside0.mk (below_step bel_ hb); clear BK782; clear HB; have BK782 := n0_; have HB := n1_; clear n0_ n1_; (try clear hb); (try clear hb2); (try clear hk); (try clear hi); have hcz24_0 : w23.cell? ⟨gb782, 0, none⟩ = some (.slice A0_0 l0_0.length c0_0) := (blk_cell BK782.out 0).trans rfl; have hcz24_1 : w23.cell? ⟨gb782, 1, none⟩ = some (.slice (some ad783) l0_1.length c0_1) := (blk_cell BK782.out 1).trans rfl; have hfz24_0 := blk_frozen BK782.out 0; have hfz24_1 := blk_frozen BK782.out 1; have p785 : 0 ≤ (x3_2 : Int) := dq_; have q785 : x3_2 < (l0_1.length : Int) := dq_; obtain ⟨ad785, A785_3, c785_3, e785, hx785_0, hx785_1, hx785_2, hx785_3, hl785_3, hi785_3⟩ := at_T92 HR0_1.out x3_2 p785 q785; obtain rfl : ad783 = ad785 := (by injection e785); replace hx785_0 := pw_cell_below HB.out hx785_0; replace hx785_1 := pw_cell_below HB.out hx785_1; replace hx785_2 := pw_cell_below HB.out hx785_2; replace hx785_3 := pw_cell_below HB.out hx785_3; have HR785_3 := Aside0.mk hi785_3; have HC785_3 := Aside0.mk hl785_3; clear hi785_3 hl785_3; replace p785 := eq_true p785; replace q785 := eq_true q785))
          go_roundg k2
          case measure => have := HJ1.out; have := HK2.out; omega
          case rel => exact ⟨(wrap64 (x3_2 + 1)), (by first | rfl | (simp; done) | (simp [*]; done)), H', ⟨by have := HJ1.out; have := HK2.out; omega⟩, ⟨bk_ BK782⟩, ⟨bel_⟩⟩
       ·rw [if_neg c13] at H
        exact absurd H (by simp)
      ·rw [if_neg c12] at H
       have c12b0 : decide (x3_2 < (l0_1.length : Int)) = false := decide_eq_false c12
       clear c12
       have H' := Aside0.mk H
       clear H
       have hcz25_0 : wr.cell? ⟨gb782, 0, none⟩ = some (.slice A0_0 l0_0.length c0_0) := (blk_cell BK782.out 0).trans rfl
       have hcz25_1 : wr.cell? ⟨gb782, 1, none⟩ = some (.slice A0_1 l0_1.length c0_1) := (blk_cell BK782.out 1).trans rfl
       have hfz25_0 := blk_frozen BK782.out 0
       have hfz25_1 := blk_frozen BK782.out 1
       go_wp2
       go_loopg [4] k2 (fun kq v4 w' => ∃ (x4_3 : Int), v4 = .int .i64 x4_3 ∧ Aside0 (sequentref04_Great.l1 kq x4_3 l0_0 l0_1 = some r) ∧ Aside0 (kq ≤ k2) ∧ Aside0 (w'.heap[gb782]? = some (.cells #[(.slice A0_0 l0_0.length c0_0), (.slice A0_1 l0_1.length c0_1)] 81 (0, 0))) ∧ Aside0 (Below w.heap.size w w'))
       case atStart => exact ⟨(0), (by first | rfl | (simp; done) | (simp [*]; done)), H', ⟨Nat.le_refl _⟩, ⟨bk_ BK782⟩, ⟨bel_⟩⟩
       case round =>
        clear H'
        try clear c1
        try clear p2
        try clear c4
        try clear c4b0
        try clear c4b1
        try clear c6
        try clear c6b0
        try clear c6b1
        try clear p6
        try clear c7
        try clear p7
        try clear q7
        try clear hx7
        try clear c8
        try clear c8b0
        try clear c8b1
        try clear c11
        try clear c12
        try clear c12b0
        try clear c13
        try clear c13b0
        try clear c14
        try clear c15
        try clear c18
        try clear c18b0
        try clear c18b1
        try clear hcz10_0
        try clear hcz10_1
        try clear hcz16_0
        try clear hcz16_1
        try clear hcz19_0
        try clear hcz19_1
        try clear hcz21_0
        try clear hcz21_1
        try clear hcz22_0
        try clear hcz22_1
        try clear hcz24_0
        try clear hcz24_1
        try clear hcz25_0
        try clear hcz25_1
        try clear hcz5_0
        try clear hcz5_1
        try clear hcz7_0
        try clear hcz7_1
        try clear hcz9_0
        try clear hcz9_1
        try clear hfz10_0
        try clear hfz10_1
        try clear hfz16_0
        try clear hfz16_1
        try clear hfz19_0
        try clear hfz19_1
        try clear hfz21_0
        try clear hfz21_1
        try clear hfz22_0
        try clear hfz22_1
        try clear hfz24_0
        try clear hfz24_1
        try clear hfz25_0
        try clear hfz25_1
        try clear hfz5_0
        try clear hfz5_1
        try clear hfz7_0
        try clear hfz7_1
        try clear hfz9_0
        try clear hfz9_1
        try clear hx783_0
        try clear hx783_1
        try clear hx783_2
        try clear hx783_3
        try clear hx785_0
        try clear hx785_1
        try clear hx785_2
        try clear hx785_3
        try clear p2
        try clear p783
        try clear p785
        try clear q783
        try clear q785
        obtain ⟨x4_3, rfl, HA, HK3, BK782, HB⟩ := hrel
        cases gk with
        | zero => exact absurd HA.out (by simp [sequentref04_Great.l1])
        | succ k3 =>
         have H := HA.out
         clear HA
         simp only [sequentref04_Great.l1] at H
         by_cases c26 : x4_3 < (l0_0.length : Int)
         ·rw [if_pos c26] at H
          have c26b0 : decide (x4_3 < (l0_0.length : Int)) = true := decide_eq_true c26
          clear c26
          by_cases c27 : 0 ≤ x4_3
          ·rw [if_pos c27] at H
           have c27b0 : decide (0 ≤ x4_3) = true := decide_eq_true c27
           clear c27
           by_cases c28 : (((rd_T124 l0_0 x4_3).f0).size : Int) > 1000
           ·rw [if_pos c28] at H
            have c28b0 : decide (1000 < (((rd_T124 l0_0 x4_3).f0).size : Int)) = true := decide_eq_true c28
            have c28b1 : decide (1000 < ((rd_T124 l0_0 x4_3).f0).size) = true := decide_eq_true (by omega)
            clear c28
            obtain rfl := Option.some.inj H
            have hcz29_0 : wr.cell? ⟨gb782, 0, none⟩ = some (.slice A0_0 l0_0.length c0_0) := (blk_cell BK782.out 0).trans rfl
            have hcz29_1 : wr.cell? ⟨gb782, 1, none⟩ = some (.slice A0_1 l0_1.length c0_1) := (blk_cell BK782.out 1).trans rfl
            have hfz29_0 := blk_frozen BK782.out 0
            have hfz29_1 := blk_frozen BK782.out 1
            have p786 : 0 ≤ (x4_3 : Int) := dq_
            have q786 : x4_3 < (l0_0.length : Int) := dq_
            obtain ⟨ad786, e786, hx786_0, hx786_1⟩ := at_T124 HR0_0.out x4_3 p786 q786
            cases e786
            replace hx786_0 := pw_cell_below HB.out hx786_0
            replace hx786_1 := pw_cell_below HB.out hx786_1
            replace p786 := eq_true p786
            replace q786 := eq_true q786
            go_wp2
            go_ret
            exact ⟨by first | rfl | (simp [errW_none, errW_some] <;> rfl) | (simp [*, errW_none, errW_some] <;> rfl), bel_⟩
           ·rw [if_neg c28] at H
            have c28b0 : decide (1000 < (((rd_T124 l0_0 x4_3).f0).size : Int)) = false := decide_eq_false c28
            have c28b1 : decide (1000 < ((rd_T124 l0_0 x4_3).f0).size) = false := decide_eq_false (by omega)
            clear c28
            have H' := Aside0.mk H
            clear H
            have hcz30_0 : wr.cell? ⟨gb782, 0, none⟩ = some (.slice A0_0 l0_0.length c0_0) := (blk_cell BK782.out 0).trans rfl
            have hcz30_1 : wr.cell? ⟨gb782, 1, none⟩ = some (.slice A0_1 l0_1.length c0_1) := (blk_cell BK782.out 1).trans rfl
            have hfz30_0 := blk_frozen BK782.out 0
            have hfz30_1 := blk_frozen BK782.out 1
            have p786 : 0 ≤ (x4_3 : Int) := dq_
            have q786 : x4_3 < (l0_0.length : Int) := dq_
            obtain ⟨ad786, e786, hx786_0, hx786_1⟩ := at_T124 HR0_0.out x4_3 p786 q786
            cases e786
            replace hx786_0 := pw_cell_below HB.out hx786_0
            replace hx786_1 := pw_cell_below HB.out hx786_1
            replace p786 := eq_true p786
            replace q786 := eq_true q786
            go_wp2
            go_roundg k3
            case measure => have := HJ1.out; have := HK2.out; have := HK3.out; omega
            case rel => exact ⟨(wrap64 (x4_3 + 1)), (by first | rfl | (simp; done) | (simp [*]; done)), H', ⟨by have := HJ1.out; have := HK2.out; have := HK3.out; omega⟩, ⟨bk_ BK782⟩, ⟨bel_⟩⟩
          ·rw [if_neg c27] at H
           exact absurd H (by simp)
         ·rw [if_neg c26] at H
          have c26b0 : decide (x4_3 < (l0_0.length : Int)) = false := decide_eq_false c26
          clear c26
          obtain rfl := Option.some.inj H
          have hcz31_0 : wr.cell? ⟨gb782, 0, none⟩ = some (.slice A0_0 l0_0.length c0_0) := (blk_cell BK782.out 0).trans rfl
          have hcz31_1 : wr.cell? ⟨gb782, 1, none⟩ = some (.slice A0_1 l0_1.length c0_1) := (blk_cell BK782.out 1).trans rfl
          have hfz31_0 := blk_frozen BK782.out 0
          have hfz31_1 := blk_frozen BK782.out 1
          go_wp2
          go_ret
          exact ⟨by first | rfl | (simp [errW_none, errW_some] <;> rfl) | (simp [*, errW_none, errW_some] <;> rfl), bel_⟩

end Go.Proofs.Ytgnklkmifcmlhaa.Q
