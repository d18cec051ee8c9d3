/- Proved here: parts of the proof of a given statement (HRowSignatureTells): contracts of the functions that it reaches, what they answer, and in the last text the statement itself. Conditions: those that each theorem names. -/
import Derived.Test.YtecplbgdalchdaaZSTX3
import Derived.Test.YtecplbgdalchdaaZSTX12
-- written by a program of this session (wip/tools/myprint.py) out of the translation
namespace Go.Proofs.Ytecplbgdalchdaa.Q
open Go.RowKit Go.Proofs.YtecplbgdalchdaaW.PrintWords Go.Proofs.YtecplbgdalchdaaW.PrintLast Go.Proofs.YtecplbgdalchdaaW.PrintMore
attribute [local go_sem] max2_int min2_int max_two min_two max_three min_three max_four min_four   -- for this text's walks alone
set_option linter.unusedVariables false
set_option linter.unusedSimpArgs false

/-! ### sequentref04_Check: function 77 -/
mutual
def sequentref04_Check.j0 : Nat → Bool → List (S106) → List (S108) → Option (Int)
 | 0, _, _, _ => none
 | k + 1, x16, x1042000, x1042001 => if x16 = true then (some 4) else (sequentref04_Check.l0 k 0 x1042000 x1042001)
def sequentref04_Check.l0 : Nat → Int → List (S106) → List (S108) → Option (Int)
 | 0, _, _, _ => none
 | k + 1, x3, x1042000, x1042001 => if x3 < (x1042000.length : Int) then (if 0 ≤ x3 then ((sequentref04_Operator.f k ((rd_T106 x1042000 x3).f0)).bind fun t1043 => (if t1043 = true then (if ((rd_T106 x1042000 x3).f1) < 0 then (sequentref04_Check.j2 k x3 true x1042000 x1042001) else (sequentref04_Check.j2 k x3 (decide (((rd_T106 x1042000 x3).f1) > 8)) x1042000 x1042001)) else (sequentref04_Check.j2 k x3 true x1042000 x1042001))) else (none)) else (sequentref04_Check.l2 k 0 x1042000 x1042001)
def sequentref04_Check.j2 : Nat → Int → Bool → List (S106) → List (S108) → Option (Int)
 | 0, _, _, _, _ => none
 | k + 1, x3, x49, x1042000, x1042001 => if x49 = true then (some 8) else (sequentref04_Check.l1 k x3 0 x1042000 x1042001)
def sequentref04_Check.l1 : Nat → Int → Int → List (S106) → List (S108) → Option (Int)
 | 0, _, _, _, _ => none
 | k + 1, x3, x4, x1042000, x1042001 => if x4 < x3 then (if 0 ≤ x4 then (if x4 < (x1042000.length : Int) then (if 0 ≤ x3 then (if x3 < (x1042000.length : Int) then (if ((rd_T106 x1042000 x4).f0).toList = ((rd_T106 x1042000 x3).f0).toList then (some 8) else (sequentref04_Check.l1 k x3 (wrap64 (x4 + 1)) x1042000 x1042001)) else (none)) else (none)) else (none)) else (none)) else (sequentref04_Check.l0 k (wrap64 (x3 + 1)) x1042000 x1042001)
def sequentref04_Check.l2 : Nat → Int → List (S106) → List (S108) → Option (Int)
 | 0, _, _, _ => none
 | k + 1, x5, x1042000, x1042001 => if x5 < (x1042001.length : Int) then (if 0 ≤ x5 then ((sequentref02_Name.f k ((rd_T108 x1042001 x5).f0)).bind fun t1049 => (if t1049 = true then ((sequentref01_Valid.f k ((rd_T108 x1042001 x5).f1.f0) ((rd_T108 x1042001 x5).f1.f1) ((rd_T108 x1042001 x5).f1.f2)).bind fun t1051 => (if t1051 = true then ((sequentref04_OverType.f k x1042000 x1042001 ((rd_T108 x1042001 x5).f1.f0) ((rd_T108 x1042001 x5).f1.f1) ((rd_T108 x1042001 x5).f1.f2)).bind fun t1053 => (sequentref04_Check.j5 k x5 (!t1053) x1042000 x1042001)) else (sequentref04_Check.j5 k x5 true x1042000 x1042001))) else (sequentref04_Check.j5 k x5 true x1042000 x1042001))) else (none)) else (some 0)
def sequentref04_Check.j5 : Nat → Int → Bool → List (S106) → List (S108) → Option (Int)
 | 0, _, _, _, _ => none
 | k + 1, x5, x103, x1042000, x1042001 => if x103 = true then (some 8) else (sequentref04_Check.l3 k x5 0 x1042000 x1042001)
def sequentref04_Check.l3 : Nat → Int → Int → List (S106) → List (S108) → Option (Int)
 | 0, _, _, _, _ => none
 | k + 1, x5, x6, x1042000, x1042001 => if x6 < x5 then (if 0 ≤ x6 then (if x6 < (x1042001.length : Int) then (if 0 ≤ x5 then (if x5 < (x1042001.length : Int) then (if ((rd_T108 x1042001 x6).f0).toList = ((rd_T108 x1042001 x5).f0).toList then (some 8) else (sequentref04_Check.l3 k x5 (wrap64 (x6 + 1)) x1042000 x1042001)) else (none)) else (none)) else (none)) else (none)) else (sequentref04_Check.l2 k (wrap64 (x5 + 1)) x1042000 x1042001)
end
def sequentref04_Check.f (k : Nat) (l0_0 : List (S106)) (l0_1 : List (S108)) : Option (Int) := if (l0_0.length : Int) > 512 then (sequentref04_Check.j0 k true l0_0 l0_1) else (sequentref04_Check.j0 k (decide ((l0_1.length : Int) > 512)) l0_0 l0_1)
def sequentref04_Check.T11 : Bool × List (List Nat × List Nat) := (true, [([], []), ([0], [0]), ([], []), ([1, 2], [1, 2]), ([3], [3]), ([4], [4]), ([], []), ([6], [6]), ([], []), ([7, 8], [7, 8]), ([9], [9]), ([10], [10]), ([5, 11], [5, 11])])
def sequentref04_Check.B11 : List Nat := [0, 1, 0, 7, 15, 31, 0, 64, 0, 448, 960, 1984, 4095]
theorem sequentref04_Check.tab11 : rtab .any (opsOf Try.f77 11) = sequentref04_Check.T11 := by kernel_rfl
theorem sequentref04_Check.bits11 : waitsOk sequentref04_Check.T11.2 sequentref04_Check.B11 = true := by kernel_rfl
def sequentref04_Check.T16 : Bool × List (List Nat × List Nat) := (true, [([], []), ([0], [0]), ([], []), ([1, 2], [1, 2]), ([3], [3]), ([4], [4]), ([5], [5]), ([6], [6]), ([7, 6], [7]), ([8], [8]), ([9, 8], [8, 9]), ([8], [8]), ([10, 11, 8], [8, 10, 11]), ([12, 8], [8, 12]), ([13, 8], [8, 13]), ([14, 8, 8], [8, 14]), ([15, 8], [8, 15]), ([8, 16], [8, 16]), ([17, 15], [17]), ([18], [18]), ([18], [18]), ([20, 18], [18, 20]), ([18], [18]), ([21, 22, 18], [18, 21, 22]), ([23, 18], [18, 23]), ([24, 18], [18, 24]), ([19, 25, 18, 18], [18, 19, 25]), ([26, 18], [18, 26]), ([18, 27], [18, 27])])
def sequentref04_Check.B16 : List Nat := [0, 1, 0, 7, 15, 31, 63, 127, 255, 511, 1023, 511, 4095, 8191, 16383, 32767, 65535, 131071, 262143, 524287, 524287, 1572863, 524287, 7864319, 16252927, 33030143, 67108863, 134217727, 268435455]
theorem sequentref04_Check.tab16 : rtab .any (opsOf Try.f77 16) = sequentref04_Check.T16 := by kernel_rfl
theorem sequentref04_Check.bits16 : waitsOk sequentref04_Check.T16.2 sequentref04_Check.B16 = true := by kernel_rfl
def sequentref04_Check.T21 : Bool × List (List Nat × List Nat) := (true, [([], []), ([0], [0]), ([], []), ([1, 2], [1, 2]), ([3], [3]), ([4], [4]), ([], []), ([6], [6]), ([], []), ([7, 8], [7, 8]), ([9], [9]), ([10], [10]), ([5, 11], [5, 11])])
def sequentref04_Check.B21 : List Nat := [0, 1, 0, 7, 15, 31, 0, 64, 0, 448, 960, 1984, 4095]
theorem sequentref04_Check.tab21 : rtab .any (opsOf Try.f77 21) = sequentref04_Check.T21 := by kernel_rfl
theorem sequentref04_Check.bits21 : waitsOk sequentref04_Check.T21.2 sequentref04_Check.B21 = true := by kernel_rfl
set_option maxHeartbeats 8000000 in
set_option maxRecDepth 100000 in
theorem sequentref04_Check.calls (k : Nat) (A0_0 : Option Addr) (c0_0 : Nat) (l0_0 : List (S106)) (A0_1 : Option Addr) (c0_1 : Nat) (l0_1 : List (S108)) (r : Int) (w : World) (hr0_0 : Kd.C k106 w A0_0 l0_0.length l0_0) (hc0_0 : l0_0.length ≤ c0_0) (hr0_1 : Kd.C k108 w A0_1 l0_1.length l0_1) (hc0_1 : l0_1.length ≤ c0_1) (h : sequentref04_Check.f k l0_0 l0_1 = some r) :
 Calls Try.prog 77 #[.agg #[.slice A0_0 l0_0.length c0_0, .slice A0_1 l0_1.length c0_1]] w fun e w' => e = .returned (.int .i64 r) ∧ Below w.heap.size w w' := by
 have hu94 := Try.underlying94
 have hu24 := Try.underlying24
 have HR0_0 := Aside0.mk hr0_0
 have HC0_0 := Aside0.mk hc0_0
 clear hr0_0 hc0_0
 have HR0_1 := Aside0.mk hr0_1
 have HC0_1 := Aside0.mk hc0_1
 clear hr0_1 hc0_1
 have HB := Aside0.mk (Below.refl w.heap.size w)
 have H : (if (l0_0.length : Int) > 512 then (sequentref04_Check.j0 k true l0_0 l0_1) else (sequentref04_Check.j0 k (decide ((l0_1.length : Int) > 512)) l0_0 l0_1)) = some r := h
 clear h
 have HC2 := Aside0.mk H
 clear H
 go_enter Try.func77, Try.ntmps77
 go_upto_region 1 with (first | ((with_reducible refine gate_dst (N := 1) rfl ?_); (try (refine gate_guard (by rfl) ?_; dsimp only)); refine box_event ?hg (N := 1) ?hd (cs := #[.slice A0_0 l0_0.length c0_0, .slice A0_1 l0_1.length c0_1]) (t := 94) ?hr ?_; (case hd => rfl); (case hg => rfl); (case hr => first | (go_simp; done) | (go_simp; rfl)); intro gb1041 hg w3 hbox hb; have n0_ := Aside0.mk (below_step bel_ hb); have n1_ := Aside0.mk (hbox); have n2_ := Aside0.mk ((by rw [hg]; exact (below_size bel_) : w.heap.size ≤ gb1041)); have n3_ := Aside0.mk ((by rw [hg]; exact (below_size bel_) : w.heap.size ≤ gb1041)); clear HB; have HB := n0_; have BK1041 := n1_; have GW1041 := n2_; have GE1041 := n3_; clear n0_ n1_ n2_ n3_; clear hb hbox hg))
 (try simp only [Act.put, List.setIfInBounds_toArray, List.set_cons_zero, List.set_cons_succ])
 go_cut [16] (fun v16 wc => ∃ (kq : Nat) (x16_1 : Bool), v16 = .bool x16_1 ∧ Aside0 (sequentref04_Check.j0 kq x16_1 l0_0 l0_1 = some r) ∧ Aside0 (kq ≤ k) ∧ Aside0 (wc.heap[gb1041]? = some (.cells #[(.slice A0_0 l0_0.length c0_0), (.slice A0_1 l0_1.length c0_1)] 94 (0, 0))) ∧ Aside0 (Below w.heap.size w wc))
 case first =>
  have H := HC2.out
  clear HC2
  by_cases c4 : (l0_0.length : Int) > 512
  ·rw [if_pos c4] at H
   have c4b0 : decide (512 < (l0_0.length : Int)) = true := decide_eq_true c4
   have c4b1 : decide (512 < l0_0.length) = true := decide_eq_true (by omega)
   clear c4
   (first | rw [c4b0] | (simp only [i64_w, i32_w]; rw [c4b0]) | skip)
   have H' := Aside0.mk H
   clear H
   have hcz5_0 : w3.cell? ⟨gb1041, 0, none⟩ = some (.slice A0_0 l0_0.length c0_0) := (blk_cell BK1041.out 0).trans rfl
   have hcz5_1 : w3.cell? ⟨gb1041, 1, none⟩ = some (.slice A0_1 l0_1.length c0_1) := (blk_cell BK1041.out 1).trans rfl
   have hfz5_0 := blk_frozen BK1041.out 0
   have hfz5_1 := blk_frozen BK1041.out 1
   go_wp2
   go_meet
   case rel => exact ⟨_, (true), (by first | rfl | (simp; done) | (simp [*]; done)), H', ⟨by first | omega | exact Nat.le_refl _⟩, ⟨bk_ BK1041⟩, ⟨bel_⟩⟩
  ·rw [if_neg c4] at H
   have c4b0 : decide (512 < (l0_0.length : Int)) = false := decide_eq_false c4
   have c4b1 : decide (512 < l0_0.length) = false := decide_eq_false (by omega)
   clear c4
   (first | rw [c4b0] | (simp only [i64_w, i32_w]; rw [c4b0]) | skip)
   have H' := Aside0.mk H
   clear H
   have hcz6_0 : w3.cell? ⟨gb1041, 0, none⟩ = some (.slice A0_0 l0_0.length c0_0) := (blk_cell BK1041.out 0).trans rfl
   have hcz6_1 : w3.cell? ⟨gb1041, 1, none⟩ = some (.slice A0_1 l0_1.length c0_1) := (blk_cell BK1041.out 1).trans rfl
   have hfz6_0 := blk_frozen BK1041.out 0
   have hfz6_1 := blk_frozen BK1041.out 1
   go_wp2
   go_meet
   case rel => exact ⟨_, (decide ((l0_1.length : Int) > 512)), (by first | rfl | (simp; done) | (simp [*]; done)), H', ⟨by first | omega | exact Nat.le_refl _⟩, ⟨bk_ BK1041⟩, ⟨bel_⟩⟩
 case rest =>
  clear HC2
  try clear p2
  try clear c4
  try clear c4b0
  try clear c4b1
  try clear hcz5_0
  try clear hcz5_1
  try clear hcz6_0
  try clear hcz6_1
  try clear hfz5_0
  try clear hfz5_1
  try clear hfz6_0
  try clear hfz6_1
  obtain ⟨kq, x16_1, rfl, HA, HJ1, BK1041, HB⟩ := hcut
  cases kq with
  | zero => exact absurd HA.out (by simp [sequentref04_Check.j0])
  | succ kj1 =>
   have H := HA.out
   clear HA
   simp only [sequentref04_Check.j0] at H
   by_cases c7 : x16_1 = true
   ·subst c7
    have H1 : (some 4) = some r := by rw [if_pos rfl] at H; exact H
    clear H
    have H := H1
    clear H1
    obtain rfl := Option.some.inj H
    go_wp2
    go_ret
    exact ⟨by first | rfl | (simp [errW_none, errW_some] <;> rfl) | (simp [*, errW_none, errW_some] <;> rfl), bel_⟩
   ·replace c7 := Bool.eq_false_iff.mpr c7
    subst c7
    have H1 : (sequentref04_Check.l0 kj1 0 l0_0 l0_1) = some r := by rw [if_neg (show ¬ (false = true) by decide)] at H; exact H
    clear H
    have H := H1
    clear H1
    have H' := Aside0.mk H
    clear H
    go_wp2
    go_loopg [3] kj1 (fun kq v3 w' => ∃ (x3_2 : Int), v3 = .int .i64 x3_2 ∧ Aside0 (sequentref04_Check.l0 kq x3_2 l0_0 l0_1 = some r) ∧ Aside0 (kq ≤ kj1) ∧ Aside0 (w'.heap[gb1041]? = some (.cells #[(.slice A0_0 l0_0.length c0_0), (.slice A0_1 l0_1.length c0_1)] 94 (0, 0))) ∧ Aside0 (Below w.heap.size w w'))
    case atStart => exact ⟨(0), (by first | rfl | (simp; done) | (simp [*]; done)), H', ⟨Nat.le_refl _⟩, ⟨bk_ BK1041⟩, ⟨bel_⟩⟩
    case round =>
     clear H'
     try clear p2
     try clear c4
     try clear c4b0
     try clear c4b1
     try clear c7
     try clear hcz5_0
     try clear hcz5_1
     try clear hcz6_0
     try clear hcz6_1
     try clear hfz5_0
     try clear hfz5_1
     try clear hfz6_0
     try clear hfz6_1
     try clear p2
     obtain ⟨x3_2, rfl, HA, HK2, BK1041, HB⟩ := hrel
     cases gk with
     | zero => exact absurd HA.out (by simp [sequentref04_Check.l0])
     | succ k2 =>
      have H := HA.out
      clear HA
      simp only [sequentref04_Check.l0] at H
      by_cases c8 : x3_2 < (l0_0.length : Int)
      ·rw [if_pos c8] at H
       have c8b0 : decide (x3_2 < (l0_0.length : Int)) = true := decide_eq_true c8
       clear c8
       have HC9 := Aside0.mk H
       clear H
       have hcz10_0 : wr.cell? ⟨gb1041, 0, none⟩ = some (.slice A0_0 l0_0.length c0_0) := (blk_cell BK1041.out 0).trans rfl
       have hcz10_1 : wr.cell? ⟨gb1041, 1, none⟩ = some (.slice A0_1 l0_1.length c0_1) := (blk_cell BK1041.out 1).trans rfl
       have hfz10_0 := blk_frozen BK1041.out 0
       have hfz10_1 := blk_frozen BK1041.out 1
       go_upto_region 6 with (fail)
       go_cut [49] (fun v49 wc => ∃ (kq : Nat) (x49_8 : Bool), v49 = .bool x49_8 ∧ Aside0 (sequentref04_Check.j2 kq x3_2 x49_8 l0_0 l0_1 = some r) ∧ Aside0 (kq ≤ k2) ∧ Aside0 (wc.heap[gb1041]? = some (.cells #[(.slice A0_0 l0_0.length c0_0), (.slice A0_1 l0_1.length c0_1)] 94 (0, 0))) ∧ Aside0 (Below w.heap.size w wc))
       case first =>
        have H := HC9.out
        clear HC9
        by_cases c11 : 0 ≤ x3_2
        ·rw [if_pos c11] at H
         have c11b0 : decide (0 ≤ x3_2) = true := decide_eq_true c11
         clear c11
         (first | rw [c11b0] | (simp only [i64_w, i32_w]; rw [c11b0]) | skip)
         replace H := Option.bind_eq_some_iff.mp H
         obtain ⟨t1043, A120, H⟩ := H
         replace H : (if t1043 = true then (if ((rd_T106 l0_0 x3_2).f1) < 0 then (sequentref04_Check.j2 k2 x3_2 true l0_0 l0_1) else (sequentref04_Check.j2 k2 x3_2 (decide (((rd_T106 l0_0 x3_2).f1) > 8)) l0_0 l0_1)) else (sequentref04_Check.j2 k2 x3_2 true l0_0 l0_1)) = some r := H
         have A12 := Aside0.mk A120
         clear A120
         by_cases c13 : t1043 = true
         ·subst c13
          have H1 : (if ((rd_T106 l0_0 x3_2).f1) < 0 then (sequentref04_Check.j2 k2 x3_2 true l0_0 l0_1) else (sequentref04_Check.j2 k2 x3_2 (decide (((rd_T106 l0_0 x3_2).f1) > 8)) l0_0 l0_1)) = some r := by rw [if_pos rfl] at H; exact H
          clear H
          have H := H1
          clear H1
          by_cases c14 : ((rd_T106 l0_0 x3_2).f1) < 0
          ·rw [if_pos c14] at H
           have c14b0 : decide (((rd_T106 l0_0 x3_2).f1) < 0) = true := decide_eq_true c14
           clear c14
           have H' := Aside0.mk H
           clear H
           have hcz15_0 : wr.cell? ⟨gb1041, 0, none⟩ = some (.slice A0_0 l0_0.length c0_0) := (blk_cell BK1041.out 0).trans rfl
           have hcz15_1 : wr.cell? ⟨gb1041, 1, none⟩ = some (.slice A0_1 l0_1.length c0_1) := (blk_cell BK1041.out 1).trans rfl
           have hfz15_0 := blk_frozen BK1041.out 0
           have hfz15_1 := blk_frozen BK1041.out 1
           have p1042 : 0 ≤ (x3_2 : Int) := dq_
           have q1042 : x3_2 < (l0_0.length : Int) := dq_
           obtain ⟨ad1042, e1042, hx1042_0, hx1042_1⟩ := at_T106 HR0_0.out x3_2 p1042 q1042
           cases e1042
           replace hx1042_0 := pw_cell_below HB.out hx1042_0
           replace hx1042_1 := pw_cell_below HB.out hx1042_1
           replace p1042 := eq_true p1042
           replace q1042 := eq_true q1042
           go_wp2_with (first | ((with_reducible refine gate_callee (f := 149) rfl ?_); refine goesL_ (some 30) rfl rfl Try.func149 (by kernel_rfl) rfl #[.string ((rd_T106 l0_0 x3_2).f0)] rfl (by (try simp only [List.map_toArray, List.map_cons, List.map_nil]); first | done | rfl | (simp only [List.length_drop, List.length_take]; rfl)) ?_; (with_reducible refine (sequentref04_Operator.calls k2 ((rd_T106 l0_0 x3_2).f0) true _ A12.out).mono ?_); rintro e w' ⟨rfl, ⟨nd, rfl⟩⟩; refine ⟨_, rfl, ?_⟩; have p1044 : 0 ≤ (x3_2 : Int) := dq_; have q1044 : x3_2 < (l0_0.length : Int) := dq_; obtain ⟨ad1044, e1044, hx1044_0, hx1044_1⟩ := at_T106 HR0_0.out x3_2 p1044 q1044; obtain rfl : ad1042 = ad1044 := (by injection e1044); replace hx1044_0 := pw_cell_below HB.out hx1044_0; replace hx1044_1 := pw_cell_below HB.out hx1044_1; replace p1044 := eq_true p1044; replace q1044 := eq_true q1044))
           go_meet
           case rel => exact ⟨_, (true), (by first | rfl | (simp; done) | (simp [*]; done)), H', ⟨by have := HJ1.out; have := HK2.out; first | omega | exact Nat.le_refl _⟩, ⟨bk_ BK1041⟩, ⟨bel_⟩⟩
          ·rw [if_neg c14] at H
           have c14b0 : decide (((rd_T106 l0_0 x3_2).f1) < 0) = false := decide_eq_false c14
           clear c14
           have H' := Aside0.mk H
           clear H
           have hcz16_0 : wr.cell? ⟨gb1041, 0, none⟩ = some (.slice A0_0 l0_0.length c0_0) := (blk_cell BK1041.out 0).trans rfl
           have hcz16_1 : wr.cell? ⟨gb1041, 1, none⟩ = some (.slice A0_1 l0_1.length c0_1) := (blk_cell BK1041.out 1).trans rfl
           have hfz16_0 := blk_frozen BK1041.out 0
           have hfz16_1 := blk_frozen BK1041.out 1
           have p1042 : 0 ≤ (x3_2 : Int) := dq_
           have q1042 : x3_2 < (l0_0.length : Int) := dq_
           obtain ⟨ad1042, e1042, hx1042_0, hx1042_1⟩ := at_T106 HR0_0.out x3_2 p1042 q1042
           cases e1042
           replace hx1042_0 := pw_cell_below HB.out hx1042_0
           replace hx1042_1 := pw_cell_below HB.out hx1042_1
           replace p1042 := eq_true p1042
           replace q1042 := eq_true q1042
           go_wp2_with (first | ((with_reducible refine gate_callee (f := 149) rfl ?_); refine goesL_ (some 30) rfl rfl Try.func149 (by kernel_rfl) rfl #[.string ((rd_T106 l0_0 x3_2).f0)] rfl (by (try simp only [List.map_toArray, List.map_cons, List.map_nil]); first | done | rfl | (simp only [List.length_drop, List.length_take]; rfl)) ?_; (with_reducible refine (sequentref04_Operator.calls k2 ((rd_T106 l0_0 x3_2).f0) true _ A12.out).mono ?_); rintro e w' ⟨rfl, ⟨nd, rfl⟩⟩; refine ⟨_, rfl, ?_⟩; have p1044 : 0 ≤ (x3_2 : Int) := dq_; have q1044 : x3_2 < (l0_0.length : Int) := dq_; obtain ⟨ad1044, e1044, hx1044_0, hx1044_1⟩ := at_T106 HR0_0.out x3_2 p1044 q1044; obtain rfl : ad1042 = ad1044 := (by injection e1044); replace hx1044_0 := pw_cell_below HB.out hx1044_0; replace hx1044_1 := pw_cell_below HB.out hx1044_1; replace p1044 := eq_true p1044; replace q1044 := eq_true q1044; have p1045 : 0 ≤ (x3_2 : Int) := dq_; have q1045 : x3_2 < (l0_0.length : Int) := dq_; obtain ⟨ad1045, e1045, hx1045_0, hx1045_1⟩ := at_T106 HR0_0.out x3_2 p1045 q1045; obtain rfl : ad1042 = ad1045 := (by injection e1045); replace hx1045_0 := pw_cell_below HB.out hx1045_0; replace hx1045_1 := pw_cell_below HB.out hx1045_1; replace p1045 := eq_true p1045; replace q1045 := eq_true q1045))
           go_meet
           case rel => exact ⟨_, (decide (((rd_T106 l0_0 x3_2).f1) > 8)), (by first | rfl | (simp; done) | (simp [*]; done)), H', ⟨by have := HJ1.out; have := HK2.out; first | omega | exact Nat.le_refl _⟩, ⟨bk_ BK1041⟩, ⟨bel_⟩⟩
         ·replace c13 := Bool.eq_false_iff.mpr c13
          subst c13
          have H1 : (sequentref04_Check.j2 k2 x3_2 true l0_0 l0_1) = some r := by rw [if_neg (show ¬ (false = true) by decide)] at H; exact H
          clear H
          have H := H1
          clear H1
          have H' := Aside0.mk H
          clear H
          have hcz17_0 : wr.cell? ⟨gb1041, 0, none⟩ = some (.slice A0_0 l0_0.length c0_0) := (blk_cell BK1041.out 0).trans rfl
          have hcz17_1 : wr.cell? ⟨gb1041, 1, none⟩ = some (.slice A0_1 l0_1.length c0_1) := (blk_cell BK1041.out 1).trans rfl
          have hfz17_0 := blk_frozen BK1041.out 0
          have hfz17_1 := blk_frozen BK1041.out 1
          have p1042 : 0 ≤ (x3_2 : Int) := dq_
          have q1042 : x3_2 < (l0_0.length : Int) := dq_
          obtain ⟨ad1042, e1042, hx1042_0, hx1042_1⟩ := at_T106 HR0_0.out x3_2 p1042 q1042
          cases e1042
          replace hx1042_0 := pw_cell_below HB.out hx1042_0
          replace hx1042_1 := pw_cell_below HB.out hx1042_1
          replace p1042 := eq_true p1042
          replace q1042 := eq_true q1042
          go_wp2_with (first | ((with_reducible refine gate_callee (f := 149) rfl ?_); refine goesL_ (some 30) rfl rfl Try.func149 (by kernel_rfl) rfl #[.string ((rd_T106 l0_0 x3_2).f0)] rfl (by (try simp only [List.map_toArray, List.map_cons, List.map_nil]); first | done | rfl | (simp only [List.length_drop, List.length_take]; rfl)) ?_; (with_reducible refine (sequentref04_Operator.calls k2 ((rd_T106 l0_0 x3_2).f0) false _ A12.out).mono ?_); rintro e w' ⟨rfl, ⟨nd, rfl⟩⟩; refine ⟨_, rfl, ?_⟩))
          go_meet
          case rel => exact ⟨_, (true), (by first | rfl | (simp; done) | (simp [*]; done)), H', ⟨by have := HJ1.out; have := HK2.out; first | omega | exact Nat.le_refl _⟩, ⟨bk_ BK1041⟩, ⟨bel_⟩⟩
        ·rw [if_neg c11] at H
         exact absurd H (by simp)
       case rest =>
        clear HC9
        try clear c1
        try clear p1
        try clear q1
        try clear hx1
        try clear p2
        try clear c4
        try clear c4b0
        try clear c4b1
        try clear c7
        try clear c8
        try clear c8b0
        try clear p10
        try clear q10
        try clear hx10
        try clear c11
        try clear c11b0
        try clear c13
        try clear c14
        try clear c14b0
        try clear hcz10_0
        try clear hcz10_1
        try clear hcz15_0
        try clear hcz15_1
        try clear hcz16_0
        try clear hcz16_1
        try clear hcz17_0
        try clear hcz17_1
        try clear hcz5_0
        try clear hcz5_1
        try clear hcz6_0
        try clear hcz6_1
        try clear hfz10_0
        try clear hfz10_1
        try clear hfz15_0
        try clear hfz15_1
        try clear hfz16_0
        try clear hfz16_1
        try clear hfz17_0
        try clear hfz17_1
        try clear hfz5_0
        try clear hfz5_1
        try clear hfz6_0
        try clear hfz6_1
        try clear hx1042_0
        try clear hx1042_1
        try clear hx1044_0
        try clear hx1044_1
        try clear hx1045_0
        try clear hx1045_1
        try clear p1042
        try clear p1044
        try clear p1045
        try clear p2
        try clear q1042
        try clear q1044
        try clear q1045
        obtain ⟨kq, x49_8, rfl, HA, HJ8, BK1041, HB⟩ := hcut
        cases kq with
        | zero => exact absurd HA.out (by simp [sequentref04_Check.j2])
        | succ kj8 =>
         have H := HA.out
         clear HA
         simp only [sequentref04_Check.j2] at H
         by_cases c18 : x49_8 = true
         ·subst c18
          have H1 : (some 8) = some r := by rw [if_pos rfl] at H; exact H
          clear H
          have H := H1
          clear H1
          obtain rfl := Option.some.inj H
          go_wp2
          go_ret
          exact ⟨by first | rfl | (simp [errW_none, errW_some] <;> rfl) | (simp [*, errW_none, errW_some] <;> rfl), bel_⟩
         ·replace c18 := Bool.eq_false_iff.mpr c18
          subst c18
          have H1 : (sequentref04_Check.l1 kj8 x3_2 0 l0_0 l0_1) = some r := by rw [if_neg (show ¬ (false = true) by decide)] at H; exact H
          clear H
          have H := H1
          clear H1
          have H' := Aside0.mk H
          clear H
          go_wp2
          go_loopg [4] kj8 (fun kq v4 w' => ∃ (x4_4 : Int), v4 = .int .i64 x4_4 ∧ Aside0 (sequentref04_Check.l1 kq x3_2 x4_4 l0_0 l0_1 = some r) ∧ Aside0 (kq ≤ kj8) ∧ Aside0 (w'.heap[gb1041]? = some (.cells #[(.slice A0_0 l0_0.length c0_0), (.slice A0_1 l0_1.length c0_1)] 94 (0, 0))) ∧ Aside0 (Below w.heap.size w w'))
          case atStart => exact ⟨(0), (by first | rfl | (simp; done) | (simp [*]; done)), H', ⟨Nat.le_refl _⟩, ⟨bk_ BK1041⟩, ⟨bel_⟩⟩
          case round =>
           clear H'
           try clear c1
           try clear p1
           try clear q1
           try clear hx1
           try clear p2
           try clear c4
           try clear c4b0
           try clear c4b1
           try clear c7
           try clear c8
           try clear c8b0
           try clear p10
           try clear q10
           try clear hx10
           try clear c11
           try clear c11b0
           try clear c13
           try clear c14
           try clear c14b0
           try clear c18
           try clear hcz10_0
           try clear hcz10_1
           try clear hcz15_0
           try clear hcz15_1
           try clear hcz16_0
           try clear hcz16_1
           try clear hcz17_0
           try clear hcz17_1
           try clear hcz5_0
           try clear hcz5_1
           try clear hcz6_0
           try clear hcz6_1
           try clear hfz10_0
           try clear hfz10_1
           try clear hfz15_0
           try clear hfz15_1
           try clear hfz16_0
           try clear hfz16_1
           try clear hfz17_0
           try clear hfz17_1
           try clear hfz5_0
           try clear hfz5_1
           try clear hfz6_0
           try clear hfz6_1
           try clear hx1042_0
           try clear hx1042_1
           try clear hx1044_0
           try clear hx1044_1
           try clear hx1045_0
           try clear hx1045_1
           try clear p1
           try clear p10
           try clear p1042
           try clear p1044
           try clear p1045
           try clear p2
           try clear q1
           try clear q10
           try clear q1042
           try clear q1044
           try clear q1045
           obtain ⟨x4_4, rfl, HA, HK4, BK1041, HB⟩ := hrel
           cases gk with
           | zero => exact absurd HA.out (by simp [sequentref04_Check.l1])
           | succ k4 =>
            have H := HA.out
            clear HA
            simp only [sequentref04_Check.l1] at H
            by_cases c19 : x4_4 < x3_2
            ·rw [if_pos c19] at H
             have c19b0 : decide (x4_4 < x3_2) = true := decide_eq_true c19
             clear c19
             by_cases c20 : 0 ≤ x4_4
             ·rw [if_pos c20] at H
              have c20b0 : decide (0 ≤ x4_4) = true := decide_eq_true c20
              clear c20
              by_cases c21 : x4_4 < (l0_0.length : Int)
              ·rw [if_pos c21] at H
               have c21b0 : decide (x4_4 < (l0_0.length : Int)) = true := decide_eq_true c21
               clear c21
               by_cases c22 : 0 ≤ x3_2
               ·rw [if_pos c22] at H
                have c22b0 : decide (0 ≤ x3_2) = true := decide_eq_true c22
                clear c22
                by_cases c23 : x3_2 < (l0_0.length : Int)
                ·rw [if_pos c23] at H
                 have c23b0 : decide (x3_2 < (l0_0.length : Int)) = true := decide_eq_true c23
                 clear c23
                 by_cases c24 : ((rd_T106 l0_0 x4_4).f0).toList = ((rd_T106 l0_0 x3_2).f0).toList
                 ·rw [if_pos c24] at H
                  have c24b0 : (((rd_T106 l0_0 x4_4).f0).toList == ((rd_T106 l0_0 x3_2).f0).toList) = true := beq_iff_eq.mpr c24
                  have c24b1 : (((rd_T106 l0_0 x4_4).f0).toList != ((rd_T106 l0_0 x3_2).f0).toList) = false := bne_eq_false_iff_eq.mpr c24
                  clear c24
                  obtain rfl := Option.some.inj H
                  try go_wp2
                  have n0_ := Aside0.mk (blk_drew BK1041.out)
                  have n1_ := Aside0.mk (below_drew1 HB.out)
                  clear BK1041
                  clear HB
                  have BK1041 := n0_
                  have HB := n1_
                  clear n0_ n1_
                  have p1046 : 0 ≤ (x4_4 : Int) := dq_
                  have q1046 : x4_4 < (l0_0.length : Int) := dq_
                  obtain ⟨ad1046, e1046, hx1046_0, hx1046_1⟩ := at_T106 HR0_0.out x4_4 p1046 q1046
                  have hw1046_1 := hx1046_1
                  have hw1046_0 := hx1046_0
                  cases e1046
                  replace hx1046_0 := pw_cell_below HB.out hx1046_0
                  replace hx1046_1 := pw_cell_below HB.out hx1046_1
                  replace p1046 := eq_true p1046
                  replace q1046 := eq_true q1046
                  have p1047 : 0 ≤ (x3_2 : Int) := dq_
                  have q1047 : x3_2 < (l0_0.length : Int) := dq_
                  obtain ⟨ad1047, e1047, hx1047_0, hx1047_1⟩ := at_T106 HR0_0.out x3_2 p1047 q1047
                  have hw1047_1 := hx1047_1
                  have hw1047_0 := hx1047_0
                  obtain rfl : ad1046 = ad1047 := (by injection e1047)
                  replace hx1047_0 := pw_cell_below HB.out hx1047_0
                  replace hx1047_1 := pw_cell_below HB.out hx1047_1
                  replace p1047 := eq_true p1047
                  replace q1047 := eq_true q1047
                  refine start_ (n := 13) (S := fun w' => w'.cell? ⟨gb1041, 0, none⟩ = some (.slice (some ad1046) l0_0.length c0_0) ∧ w'.cell? ⟨gb1041, 1, none⟩ = some (.slice A0_1 l0_1.length c0_1) ∧ w'.cell? (ad1046.add ((x4_4).toNat * 2)) = some (.string ((rd_T106 l0_0 x4_4).f0)) ∧ w'.cell? ⟨(ad1046.add ((x4_4).toNat * 2)).block, (ad1046.add ((x4_4).toNat * 2)).off + 1, none⟩ = some (.int .i64 ((rd_T106 l0_0 x4_4).f1)) ∧ w'.cell? (ad1046.add ((x3_2).toNat * 2)) = some (.string ((rd_T106 l0_0 x3_2).f0)) ∧ w'.cell? ⟨(ad1046.add ((x3_2).toNat * 2)).block, (ad1046.add ((x3_2).toNat * 2)).off + 1, none⟩ = some (.int .i64 ((rd_T106 l0_0 x3_2).f1))) (ds := []) #[false, false, false, false, false, false, false, false, false, false, false, false, false] (by kernel_rfl) rfl rfl ⟨(blk_cell BK1041.out 0).trans rfl, (blk_cell BK1041.out 1).trans rfl, (pw_cell_below HB.out hw1046_0), (pw_cell_below HB.out hw1046_1), (pw_cell_below HB.out hw1047_0), (pw_cell_below HB.out hw1047_1)⟩ (fun hHeld => ?_); refine with_tabW sequentref04_Check.tab11 sequentref04_Check.bits11 (fun HT_ HW_ => ?_)
                  generalize wr.drew = w25 at BK1041 HB hx1046_0 hx1046_1 hx1047_0 hx1047_1 hHeld ⊢
                  refine pure_ (i := 0) (N := some 55) (v := ?_) (a' := ?_) #[true, false, false, false, false, false, false, false, false, false, false, false, false] rfl rfl (any_of HT_.out (by kernel_rfl)) (fun _ _ _ h => h) (Or.inl ⟨by rfl, ?_⟩) ?_ ?_
                  rotate_left
                  ·intro w'
                   go_simp
                   with_reducible rfl
                  rotate_left
                  ·simp only [Act.put, List.setIfInBounds_toArray, List.set_cons_zero, List.set_cons_succ, i64_w, i32_w]
                   rfl
                  refine pure_ (i := 2) (N := some 57) (v := ?_) (a' := ?_) #[true, false, true, false, false, false, false, false, false, false, false, false, false] rfl rfl (any_of HT_.out (by kernel_rfl)) (fun _ _ _ h => h) (Or.inl ⟨by rfl, ?_⟩) ?_ ?_
                  rotate_left
                  ·intro w'
                   go_simp
                   with_reducible rfl
                  rotate_left
                  ·simp only [Act.put, List.setIfInBounds_toArray, List.set_cons_zero, List.set_cons_succ, i64_w, i32_w]
                   rfl
                  refine pure_ (i := 6) (N := some 61) (v := ?_) (a' := ?_) #[true, false, true, false, false, false, true, false, false, false, false, false, false] rfl rfl (any_of HT_.out (by kernel_rfl)) (fun _ _ _ h => h) (Or.inl ⟨by rfl, ?_⟩) ?_ ?_
                  rotate_left
                  ·intro w'
                   go_simp
                   with_reducible rfl
                  rotate_left
                  ·simp only [Act.put, List.setIfInBounds_toArray, List.set_cons_zero, List.set_cons_succ, i64_w, i32_w]
                   rfl
                  refine pure_ (i := 8) (N := some 63) (v := ?_) (a' := ?_) #[true, false, true, false, false, false, true, false, true, false, false, false, false] rfl rfl (any_of HT_.out (by kernel_rfl)) (fun _ _ _ h => h) (Or.inl ⟨by rfl, ?_⟩) ?_ ?_
                  rotate_left
                  ·intro w'
                   go_simp
                   with_reducible rfl
                  rotate_left
                  ·simp only [Act.put, List.setIfInBounds_toArray, List.set_cons_zero, List.set_cons_succ, i64_w, i32_w]
                   rfl
                  refine take_ (i := 1) (N := some 56) (v := ?_) (a' := ?_) #[true, true, true, false, false, false, true, false, true, false, false, false, false] rfl rfl (take_ofW HT_.out HW_.out (by kernel_rfl)) (fun _ _ _ h => h) (Or.inl ⟨by rfl, ?_⟩) hHeld ?_ ?_
                  rotate_left
                  ·rintro w' ⟨s0, s1, s2, s3, s4, s5⟩
                   go_simp
                   with_reducible rfl
                  rotate_left
                  ·simp only [Act.put, List.setIfInBounds_toArray, List.set_cons_zero, List.set_cons_succ, i64_w, i32_w]
                   rfl
                  refine pure_ (i := 3) (N := some 58) (v := ?_) (a' := ?_) #[true, true, true, true, false, false, true, false, true, false, false, false, false] rfl rfl (any_of HT_.out (by kernel_rfl)) (fun _ _ _ h => h) (Or.inl ⟨by rfl, ?_⟩) ?_ ?_
                  rotate_left
                  ·intro w'
                   go_simp
                   with_reducible rfl
                  rotate_left
                  ·simp only [Act.put, List.setIfInBounds_toArray, List.set_cons_zero, List.set_cons_succ, i64_w, i32_w]
                   rfl
                  refine pure_ (i := 4) (N := some 59) (v := ?_) (a' := ?_) #[true, true, true, true, true, false, true, false, true, false, false, false, false] rfl rfl (any_of HT_.out (by kernel_rfl)) (fun _ _ _ h => h) (Or.inl ⟨by rfl, ?_⟩) ?_ ?_
                  rotate_left
                  ·intro w'
                   go_simp
                   with_reducible rfl
                  rotate_left
                  ·simp only [Act.put, List.setIfInBounds_toArray, List.set_cons_zero, List.set_cons_succ, i64_w, i32_w]
                   rfl
                  refine take_ (i := 5) (N := some 60) (v := ?_) (a' := ?_) #[true, true, true, true, true, true, true, false, true, false, false, false, false] rfl rfl (take_ofW HT_.out HW_.out (by kernel_rfl)) (fun _ _ _ h => h) (Or.inl ⟨by rfl, ?_⟩) hHeld ?_ ?_
                  rotate_left
                  ·rintro w' ⟨s0, s1, s2, s3, s4, s5⟩
                   go_simp
                   with_reducible rfl
                  rotate_left
                  ·simp only [Act.put, List.setIfInBounds_toArray, List.set_cons_zero, List.set_cons_succ, i64_w, i32_w]
                   rfl
                  refine take_ (i := 7) (N := some 62) (v := ?_) (a' := ?_) #[true, true, true, true, true, true, true, true, true, false, false, false, false] rfl rfl (take_ofW HT_.out HW_.out (by kernel_rfl)) (fun _ _ _ h => h) (Or.inl ⟨by rfl, ?_⟩) hHeld ?_ ?_
                  rotate_left
                  ·rintro w' ⟨s0, s1, s2, s3, s4, s5⟩
                   go_simp
                   with_reducible rfl
                  rotate_left
                  ·simp only [Act.put, List.setIfInBounds_toArray, List.set_cons_zero, List.set_cons_succ, i64_w, i32_w]
                   rfl
                  refine pure_ (i := 9) (N := some 64) (v := ?_) (a' := ?_) #[true, true, true, true, true, true, true, true, true, true, false, false, false] rfl rfl (any_of HT_.out (by kernel_rfl)) (fun _ _ _ h => h) (Or.inl ⟨by rfl, ?_⟩) ?_ ?_
                  rotate_left
                  ·intro w'
                   go_simp
                   with_reducible rfl
                  rotate_left
                  ·simp only [Act.put, List.setIfInBounds_toArray, List.set_cons_zero, List.set_cons_succ, i64_w, i32_w]
                   rfl
                  refine pure_ (i := 10) (N := some 65) (v := ?_) (a' := ?_) #[true, true, true, true, true, true, true, true, true, true, true, false, false] rfl rfl (any_of HT_.out (by kernel_rfl)) (fun _ _ _ h => h) (Or.inl ⟨by rfl, ?_⟩) ?_ ?_
                  rotate_left
                  ·intro w'
                   go_simp
                   with_reducible rfl
                  rotate_left
                  ·simp only [Act.put, List.setIfInBounds_toArray, List.set_cons_zero, List.set_cons_succ, i64_w, i32_w]
                   rfl
                  refine take_ (i := 11) (N := some 66) (v := ?_) (a' := ?_) #[true, true, true, true, true, true, true, true, true, true, true, true, false] rfl rfl (take_ofW HT_.out HW_.out (by kernel_rfl)) (fun _ _ _ h => h) (Or.inl ⟨by rfl, ?_⟩) hHeld ?_ ?_
                  rotate_left
                  ·rintro w' ⟨s0, s1, s2, s3, s4, s5⟩
                   go_simp
                   with_reducible rfl
                  rotate_left
                  ·simp only [Act.put, List.setIfInBounds_toArray, List.set_cons_zero, List.set_cons_succ, i64_w, i32_w]
                   rfl
                  refine pure_ (i := 12) (N := some 67) (v := ?_) (a' := ?_) #[true, true, true, true, true, true, true, true, true, true, true, true, true] rfl rfl (any_of HT_.out (by kernel_rfl)) (fun _ _ _ h => h) (Or.inl ⟨by rfl, ?_⟩) ?_ ?_
                  rotate_left
                  ·intro w'
                   go_simp
                   with_reducible rfl
                  rotate_left
                  ·simp only [Act.put, List.setIfInBounds_toArray, List.set_cons_zero, List.set_cons_succ, i64_w, i32_w]
                   rfl
                  refine done_ (done_of HT_.out (by kernel_rfl)) ?_
                  try go_wp2
                  go_ret
                  exact ⟨by first | rfl | (simp [errW_none, errW_some] <;> rfl) | (simp [*, errW_none, errW_some] <;> rfl), bel_⟩
                 ·rw [if_neg c24] at H
                  have c24b0 : (((rd_T106 l0_0 x4_4).f0).toList == ((rd_T106 l0_0 x3_2).f0).toList) = false := beq_eq_false_iff_ne.mpr c24
                  have c24b1 : (((rd_T106 l0_0 x4_4).f0).toList != ((rd_T106 l0_0 x3_2).f0).toList) = true := bne_iff_ne.mpr c24
                  have H' := Aside0.mk H
                  clear H
                  try go_wp2
                  have n0_ := Aside0.mk (blk_drew BK1041.out)
                  have n1_ := Aside0.mk (below_drew1 HB.out)
                  clear BK1041
                  clear HB
                  have BK1041 := n0_
                  have HB := n1_
                  clear n0_ n1_
                  have p1046 : 0 ≤ (x4_4 : Int) := dq_
                  have q1046 : x4_4 < (l0_0.length : Int) := dq_
                  obtain ⟨ad1046, e1046, hx1046_0, hx1046_1⟩ := at_T106 HR0_0.out x4_4 p1046 q1046
                  have hw1046_1 := hx1046_1
                  have hw1046_0 := hx1046_0
                  cases e1046
                  replace hx1046_0 := pw_cell_below HB.out hx1046_0
                  replace hx1046_1 := pw_cell_below HB.out hx1046_1
                  replace p1046 := eq_true p1046
                  replace q1046 := eq_true q1046
                  have p1047 : 0 ≤ (x3_2 : Int) := dq_
                  have q1047 : x3_2 < (l0_0.length : Int) := dq_
                  obtain ⟨ad1047, e1047, hx1047_0, hx1047_1⟩ := at_T106 HR0_0.out x3_2 p1047 q1047
                  have hw1047_1 := hx1047_1
                  have hw1047_0 := hx1047_0
                  obtain rfl : ad1046 = ad1047 := (by injection e1047)
                  replace hx1047_0 := pw_cell_below HB.out hx1047_0
                  replace hx1047_1 := pw_cell_below HB.out hx1047_1
                  replace p1047 := eq_true p1047
                  replace q1047 := eq_true q1047
                  refine start_ (n := 13) (S := fun w' => w'.cell? ⟨gb1041, 0, none⟩ = some (.slice (some ad1046) l0_0.length c0_0) ∧ w'.cell? ⟨gb1041, 1, none⟩ = some (.slice A0_1 l0_1.length c0_1) ∧ w'.cell? (ad1046.add ((x4_4).toNat * 2)) = some (.string ((rd_T106 l0_0 x4_4).f0)) ∧ w'.cell? ⟨(ad1046.add ((x4_4).toNat * 2)).block, (ad1046.add ((x4_4).toNat * 2)).off + 1, none⟩ = some (.int .i64 ((rd_T106 l0_0 x4_4).f1)) ∧ w'.cell? (ad1046.add ((x3_2).toNat * 2)) = some (.string ((rd_T106 l0_0 x3_2).f0)) ∧ w'.cell? ⟨(ad1046.add ((x3_2).toNat * 2)).block, (ad1046.add ((x3_2).toNat * 2)).off + 1, none⟩ = some (.int .i64 ((rd_T106 l0_0 x3_2).f1))) (ds := []) #[false, false, false, false, false, false, false, false, false, false, false, false, false] (by kernel_rfl) rfl rfl ⟨(blk_cell BK1041.out 0).trans rfl, (blk_cell BK1041.out 1).trans rfl, (pw_cell_below HB.out hw1046_0), (pw_cell_below HB.out hw1046_1), (pw_cell_below HB.out hw1047_0), (pw_cell_below HB.out hw1047_1)⟩ (fun hHeld => ?_); refine with_tabW sequentref04_Check.tab11 sequentref04_Check.bits11 (fun HT_ HW_ => ?_)
                  generalize wr.drew = w26 at BK1041 HB hx1046_0 hx1046_1 hx1047_0 hx1047_1 hHeld ⊢
                  refine pure_ (i := 0) (N := some 55) (v := ?_) (a' := ?_) #[true, false, false, false, false, false, false, false, false, false, false, false, false] rfl rfl (any_of HT_.out (by kernel_rfl)) (fun _ _ _ h => h) (Or.inl ⟨by rfl, ?_⟩) ?_ ?_
                  rotate_left
                  ·intro w'
                   go_simp
                   with_reducible rfl
                  rotate_left
                  ·simp only [Act.put, List.setIfInBounds_toArray, List.set_cons_zero, List.set_cons_succ, i64_w, i32_w]
                   rfl
                  refine pure_ (i := 2) (N := some 57) (v := ?_) (a' := ?_) #[true, false, true, false, false, false, false, false, false, false, false, false, false] rfl rfl (any_of HT_.out (by kernel_rfl)) (fun _ _ _ h => h) (Or.inl ⟨by rfl, ?_⟩) ?_ ?_
                  rotate_left
                  ·intro w'
                   go_simp
                   with_reducible rfl
                  rotate_left
                  ·simp only [Act.put, List.setIfInBounds_toArray, List.set_cons_zero, List.set_cons_succ, i64_w, i32_w]
                   rfl
                  refine pure_ (i := 6) (N := some 61) (v := ?_) (a' := ?_) #[true, false, true, false, false, false, true, false, false, false, false, false, false] rfl rfl (any_of HT_.out (by kernel_rfl)) (fun _ _ _ h => h) (Or.inl ⟨by rfl, ?_⟩) ?_ ?_
                  rotate_left
                  ·intro w'
                   go_simp
                   with_reducible rfl
                  rotate_left
                  ·simp only [Act.put, List.setIfInBounds_toArray, List.set_cons_zero, List.set_cons_succ, i64_w, i32_w]
                   rfl
                  refine pure_ (i := 8) (N := some 63) (v := ?_) (a' := ?_) #[true, false, true, false, false, false, true, false, true, false, false, false, false] rfl rfl (any_of HT_.out (by kernel_rfl)) (fun _ _ _ h => h) (Or.inl ⟨by rfl, ?_⟩) ?_ ?_
                  rotate_left
                  ·intro w'
                   go_simp
                   with_reducible rfl
                  rotate_left
                  ·simp only [Act.put, List.setIfInBounds_toArray, List.set_cons_zero, List.set_cons_succ, i64_w, i32_w]
                   rfl
                  refine take_ (i := 1) (N := some 56) (v := ?_) (a' := ?_) #[true, true, true, false, false, false, true, false, true, false, false, false, false] rfl rfl (take_ofW HT_.out HW_.out (by kernel_rfl)) (fun _ _ _ h => h) (Or.inl ⟨by rfl, ?_⟩) hHeld ?_ ?_
                  rotate_left
                  ·rintro w' ⟨s0, s1, s2, s3, s4, s5⟩
                   go_simp
                   with_reducible rfl
                  rotate_left
                  ·simp only [Act.put, List.setIfInBounds_toArray, List.set_cons_zero, List.set_cons_succ, i64_w, i32_w]
                   rfl
                  refine pure_ (i := 3) (N := some 58) (v := ?_) (a' := ?_) #[true, true, true, true, false, false, true, false, true, false, false, false, false] rfl rfl (any_of HT_.out (by kernel_rfl)) (fun _ _ _ h => h) (Or.inl ⟨by rfl, ?_⟩) ?_ ?_
                  rotate_left
                  ·intro w'
                   go_simp
                   with_reducible rfl
                  rotate_left
                  ·simp only [Act.put, List.setIfInBounds_toArray, List.set_cons_zero, List.set_cons_succ, i64_w, i32_w]
                   rfl
                  refine pure_ (i := 4) (N := some 59) (v := ?_) (a' := ?_) #[true, true, true, true, true, false, true, false, true, false, false, false, false] rfl rfl (any_of HT_.out (by kernel_rfl)) (fun _ _ _ h => h) (Or.inl ⟨by rfl, ?_⟩) ?_ ?_
                  rotate_left
                  ·intro w'
                   go_simp
                   with_reducible rfl
                  rotate_left
                  ·simp only [Act.put, List.setIfInBounds_toArray, List.set_cons_zero, List.set_cons_succ, i64_w, i32_w]
                   rfl
                  refine take_ (i := 5) (N := some 60) (v := ?_) (a' := ?_) #[true, true, true, true, true, true, true, false, true, false, false, false, false] rfl rfl (take_ofW HT_.out HW_.out (by kernel_rfl)) (fun _ _ _ h => h) (Or.inl ⟨by rfl, ?_⟩) hHeld ?_ ?_
                  rotate_left
                  ·rintro w' ⟨s0, s1, s2, s3, s4, s5⟩
                   go_simp
                   with_reducible rfl
                  rotate_left
                  ·simp only [Act.put, List.setIfInBounds_toArray, List.set_cons_zero, List.set_cons_succ, i64_w, i32_w]
                   rfl
                  refine take_ (i := 7) (N := some 62) (v := ?_) (a' := ?_) #[true, true, true, true, true, true, true, true, true, false, false, false, false] rfl rfl (take_ofW HT_.out HW_.out (by kernel_rfl)) (fun _ _ _ h => h) (Or.inl ⟨by rfl, ?_⟩) hHeld ?_ ?_
                  rotate_left
                  ·rintro w' ⟨s0, s1, s2, s3, s4, s5⟩
                   go_simp
                   with_reducible rfl
                  rotate_left
                  ·simp only [Act.put, List.setIfInBounds_toArray, List.set_cons_zero, List.set_cons_succ, i64_w, i32_w]
                   rfl
                  refine pure_ (i := 9) (N := some 64) (v := ?_) (a' := ?_) #[true, true, true, true, true, true, true, true, true, true, false, false, false] rfl rfl (any_of HT_.out (by kernel_rfl)) (fun _ _ _ h => h) (Or.inl ⟨by rfl, ?_⟩) ?_ ?_
                  rotate_left
                  ·intro w'
                   go_simp
                   with_reducible rfl
                  rotate_left
                  ·simp only [Act.put, List.setIfInBounds_toArray, List.set_cons_zero, List.set_cons_succ, i64_w, i32_w]
                   rfl
                  refine pure_ (i := 10) (N := some 65) (v := ?_) (a' := ?_) #[true, true, true, true, true, true, true, true, true, true, true, false, false] rfl rfl (any_of HT_.out (by kernel_rfl)) (fun _ _ _ h => h) (Or.inl ⟨by rfl, ?_⟩) ?_ ?_
                  rotate_left
                  ·intro w'
                   go_simp
                   with_reducible rfl
                  rotate_left
                  ·simp only [Act.put, List.setIfInBounds_toArray, List.set_cons_zero, List.set_cons_succ, i64_w, i32_w]
                   rfl
                  refine take_ (i := 11) (N := some 66) (v := ?_) (a' := ?_) #[true, true, true, true, true, true, true, true, true, true, true, true, false] rfl rfl (take_ofW HT_.out HW_.out (by kernel_rfl)) (fun _ _ _ h => h) (Or.inl ⟨by rfl, ?_⟩) hHeld ?_ ?_
                  rotate_left
                  ·rintro w' ⟨s0, s1, s2, s3, s4, s5⟩
                   go_simp
                   with_reducible rfl
                  rotate_left
                  ·simp only [Act.put, List.setIfInBounds_toArray, List.set_cons_zero, List.set_cons_succ, i64_w, i32_w]
                   rfl
                  refine pure_ (i := 12) (N := some 67) (v := ?_) (a' := ?_) #[true, true, true, true, true, true, true, true, true, true, true, true, true] rfl rfl (any_of HT_.out (by kernel_rfl)) (fun _ _ _ h => h) (Or.inl ⟨by rfl, ?_⟩) ?_ ?_
                  rotate_left
                  ·intro w'
                   go_simp
                   with_reducible rfl
                  rotate_left
                  ·simp only [Act.put, List.setIfInBounds_toArray, List.set_cons_zero, List.set_cons_succ, i64_w, i32_w]
                   rfl
                  refine done_ (done_of HT_.out (by kernel_rfl)) ?_
                  try go_wp2
                  go_roundg k4
                  case measure => have := HJ1.out; have := HK2.out; have := HJ8.out; have := HK4.out; omega
                  case rel => exact ⟨(wrap64 (x4_4 + 1)), (by first | rfl | (simp; done) | (simp [*]; done)), H', ⟨by have := HJ1.out; have := HK2.out; have := HJ8.out; have := HK4.out; omega⟩, ⟨bk_ BK1041⟩, ⟨bel_⟩⟩
                ·rw [if_neg c23] at H
                 exact absurd H (by simp)
               ·rw [if_neg c22] at H
                exact absurd H (by simp)
              ·rw [if_neg c21] at H
               exact absurd H (by simp)
             ·rw [if_neg c20] at H
              exact absurd H (by simp)
            ·rw [if_neg c19] at H
             have c19b0 : decide (x4_4 < x3_2) = false := decide_eq_false c19
             clear c19
             have H' := Aside0.mk H
             clear H
             go_wp2
             go_roundg k4
             case measure => have := HJ1.out; have := HK2.out; have := HJ8.out; have := HK4.out; omega
             case rel => exact ⟨(wrap64 (x3_2 + 1)), (by first | rfl | (simp; done) | (simp [*]; done)), H', ⟨by have := HJ1.out; have := HK2.out; have := HJ8.out; have := HK4.out; omega⟩, ⟨bk_ BK1041⟩, ⟨bel_⟩⟩
      ·rw [if_neg c8] at H
       have c8b0 : decide (x3_2 < (l0_0.length : Int)) = false := decide_eq_false c8
       clear c8
       have H' := Aside0.mk H
       clear H
       have hcz27_0 : wr.cell? ⟨gb1041, 0, none⟩ = some (.slice A0_0 l0_0.length c0_0) := (blk_cell BK1041.out 0).trans rfl
       have hcz27_1 : wr.cell? ⟨gb1041, 1, none⟩ = some (.slice A0_1 l0_1.length c0_1) := (blk_cell BK1041.out 1).trans rfl
       have hfz27_0 := blk_frozen BK1041.out 0
       have hfz27_1 := blk_frozen BK1041.out 1
       go_wp2
       go_loopg [5] k2 (fun kq v5 w' => ∃ (x5_3 : Int), v5 = .int .i64 x5_3 ∧ Aside0 (sequentref04_Check.l2 kq x5_3 l0_0 l0_1 = some r) ∧ Aside0 (kq ≤ k2) ∧ Aside0 (w'.heap[gb1041]? = some (.cells #[(.slice A0_0 l0_0.length c0_0), (.slice A0_1 l0_1.length c0_1)] 94 (0, 0))) ∧ Aside0 (Below w.heap.size w w'))
       case atStart => exact ⟨(0), (by first | rfl | (simp; done) | (simp [*]; done)), H', ⟨Nat.le_refl _⟩, ⟨bk_ BK1041⟩, ⟨bel_⟩⟩
       case round =>
        clear H'
        try clear c1
        try clear p1
        try clear q1
        try clear hx1
        try clear c2
        try clear p2
        try clear c4
        try clear c4b0
        try clear c4b1
        try clear p6
        try clear c7
        try clear c8
        try clear c8b0
        try clear p10
        try clear q10
        try clear hx10
        try clear c11
        try clear c11b0
        try clear c13
        try clear c14
        try clear c14b0
        try clear c18
        try clear c19
        try clear c19b0
        try clear c20
        try clear c20b0
        try clear c21
        try clear c21b0
        try clear c22
        try clear c22b0
        try clear c23
        try clear c23b0
        try clear c24
        try clear c24b0
        try clear c24b1
        try clear hcz10_0
        try clear hcz10_1
        try clear hcz15_0
        try clear hcz15_1
        try clear hcz16_0
        try clear hcz16_1
        try clear hcz17_0
        try clear hcz17_1
        try clear hcz27_0
        try clear hcz27_1
        try clear hcz5_0
        try clear hcz5_1
        try clear hcz6_0
        try clear hcz6_1
        try clear hfz10_0
        try clear hfz10_1
        try clear hfz15_0
        try clear hfz15_1
        try clear hfz16_0
        try clear hfz16_1
        try clear hfz17_0
        try clear hfz17_1
        try clear hfz27_0
        try clear hfz27_1
        try clear hfz5_0
        try clear hfz5_1
        try clear hfz6_0
        try clear hfz6_1
        try clear hx1042_0
        try clear hx1042_1
        try clear hx1044_0
        try clear hx1044_1
        try clear hx1045_0
        try clear hx1045_1
        try clear hx1046_0
        try clear hx1046_1
        try clear hx1047_0
        try clear hx1047_1
        try clear p1
        try clear p10
        try clear p1042
        try clear p1044
        try clear p1045
        try clear p1046
        try clear p1047
        try clear p2
        try clear q1
        try clear q10
        try clear q1042
        try clear q1044
        try clear q1045
        try clear q1046
        try clear q1047
        obtain ⟨x5_3, rfl, HA, HK3, BK1041, HB⟩ := hrel
        cases gk with
        | zero => exact absurd HA.out (by simp [sequentref04_Check.l2])
        | succ k3 =>
         have H := HA.out
         clear HA
         simp only [sequentref04_Check.l2] at H
         by_cases c28 : x5_3 < (l0_1.length : Int)
         ·rw [if_pos c28] at H
          have c28b0 : decide (x5_3 < (l0_1.length : Int)) = true := decide_eq_true c28
          clear c28
          have HC29 := Aside0.mk H
          clear H
          have hcz30_0 : wr.cell? ⟨gb1041, 0, none⟩ = some (.slice A0_0 l0_0.length c0_0) := (blk_cell BK1041.out 0).trans rfl
          have hcz30_1 : wr.cell? ⟨gb1041, 1, none⟩ = some (.slice A0_1 l0_1.length c0_1) := (blk_cell BK1041.out 1).trans rfl
          have hfz30_0 := blk_frozen BK1041.out 0
          have hfz30_1 := blk_frozen BK1041.out 1
          go_upto_region 16 with (fail)
          go_cut [103] (fun v103 wc => ∃ (kq : Nat) (x103_28 : Bool), v103 = .bool x103_28 ∧ Aside0 (sequentref04_Check.j5 kq x5_3 x103_28 l0_0 l0_1 = some r) ∧ Aside0 (kq ≤ k3) ∧ Aside0 (wc.heap[gb1041]? = some (.cells #[(.slice A0_0 l0_0.length c0_0), (.slice A0_1 l0_1.length c0_1)] 94 (0, 0))) ∧ Aside0 (Below w.heap.size w wc))
          case first =>
           have H := HC29.out
           clear HC29
           by_cases c31 : 0 ≤ x5_3
           ·rw [if_pos c31] at H
            have c31b0 : decide (0 ≤ x5_3) = true := decide_eq_true c31
            clear c31
            (first | rw [c31b0] | (simp only [i64_w, i32_w]; rw [c31b0]) | skip)
            replace H := Option.bind_eq_some_iff.mp H
            obtain ⟨t1049, A320, H⟩ := H
            replace H : (if t1049 = true then ((sequentref01_Valid.f k3 ((rd_T108 l0_1 x5_3).f1.f0) ((rd_T108 l0_1 x5_3).f1.f1) ((rd_T108 l0_1 x5_3).f1.f2)).bind fun t1051 => (if t1051 = true then ((sequentref04_OverType.f k3 l0_0 l0_1 ((rd_T108 l0_1 x5_3).f1.f0) ((rd_T108 l0_1 x5_3).f1.f1) ((rd_T108 l0_1 x5_3).f1.f2)).bind fun t1053 => (sequentref04_Check.j5 k3 x5_3 (!t1053) l0_0 l0_1)) else (sequentref04_Check.j5 k3 x5_3 true l0_0 l0_1))) else (sequentref04_Check.j5 k3 x5_3 true l0_0 l0_1)) = some r := H
            have A32 := Aside0.mk A320
            clear A320
            by_cases c33 : t1049 = true
            ·subst c33
             have H1 : ((sequentref01_Valid.f k3 ((rd_T108 l0_1 x5_3).f1.f0) ((rd_T108 l0_1 x5_3).f1.f1) ((rd_T108 l0_1 x5_3).f1.f2)).bind fun t1051 => (if t1051 = true then ((sequentref04_OverType.f k3 l0_0 l0_1 ((rd_T108 l0_1 x5_3).f1.f0) ((rd_T108 l0_1 x5_3).f1.f1) ((rd_T108 l0_1 x5_3).f1.f2)).bind fun t1053 => (sequentref04_Check.j5 k3 x5_3 (!t1053) l0_0 l0_1)) else (sequentref04_Check.j5 k3 x5_3 true l0_0 l0_1))) = some r := by rw [if_pos rfl] at H; exact H
             clear H
             have H := H1
             clear H1
             replace H := Option.bind_eq_some_iff.mp H
             obtain ⟨t1051, A340, H⟩ := H
             replace H : (if t1051 = true then ((sequentref04_OverType.f k3 l0_0 l0_1 ((rd_T108 l0_1 x5_3).f1.f0) ((rd_T108 l0_1 x5_3).f1.f1) ((rd_T108 l0_1 x5_3).f1.f2)).bind fun t1053 => (sequentref04_Check.j5 k3 x5_3 (!t1053) l0_0 l0_1)) else (sequentref04_Check.j5 k3 x5_3 true l0_0 l0_1)) = some r := H
             have A34 := Aside0.mk A340
             clear A340
             by_cases c35 : t1051 = true
             ·subst c35
              have H1 : ((sequentref04_OverType.f k3 l0_0 l0_1 ((rd_T108 l0_1 x5_3).f1.f0) ((rd_T108 l0_1 x5_3).f1.f1) ((rd_T108 l0_1 x5_3).f1.f2)).bind fun t1053 => (sequentref04_Check.j5 k3 x5_3 (!t1053) l0_0 l0_1)) = some r := by rw [if_pos rfl] at H; exact H
              clear H
              have H := H1
              clear H1
              replace H := Option.bind_eq_some_iff.mp H
              obtain ⟨t1053, A360, H⟩ := H
              replace H : (sequentref04_Check.j5 k3 x5_3 (!t1053) l0_0 l0_1) = some r := H
              have A36 := Aside0.mk A360
              clear A360
              have H' := Aside0.mk H
              clear H
              try go_wp2
              have n0_ := Aside0.mk (blk_drew BK1041.out)
              have n1_ := Aside0.mk (below_drew1 HB.out)
              clear BK1041
              clear HB
              have BK1041 := n0_
              have HB := n1_
              clear n0_ n1_
              have p1048 : 0 ≤ (x5_3 : Int) := dq_
              have q1048 : x5_3 < (l0_1.length : Int) := dq_
              obtain ⟨ad1048, A1048_3, c1048_3, e1048, hx1048_0, hx1048_1, hx1048_2, hx1048_3, hl1048_3, hi1048_3⟩ := at_T108 HR0_1.out x5_3 p1048 q1048
              have hw1048_3 := hx1048_3
              have hw1048_2 := hx1048_2
              have hw1048_1 := hx1048_1
              have hw1048_0 := hx1048_0
              cases e1048
              replace hx1048_0 := pw_cell_below HB.out hx1048_0
              replace hx1048_1 := pw_cell_below HB.out hx1048_1
              replace hx1048_2 := pw_cell_below HB.out hx1048_2
              replace hx1048_3 := pw_cell_below HB.out hx1048_3
              have HR1048_3 := Aside0.mk hi1048_3
              have HC1048_3 := Aside0.mk hl1048_3
              clear hi1048_3 hl1048_3
              replace p1048 := eq_true p1048
              replace q1048 := eq_true q1048
              have p1050 : 0 ≤ (x5_3 : Int) := dq_
              have q1050 : x5_3 < (l0_1.length : Int) := dq_
              obtain ⟨ad1050, A1050_3, c1050_3, e1050, hx1050_0, hx1050_1, hx1050_2, hx1050_3, hl1050_3, hi1050_3⟩ := at_T108 HR0_1.out x5_3 p1050 q1050
              have hw1050_3 := hx1050_3
              have hw1050_2 := hx1050_2
              have hw1050_1 := hx1050_1
              have hw1050_0 := hx1050_0
              obtain rfl : ad1048 = ad1050 := (by injection e1050)
              replace hx1050_0 := pw_cell_below HB.out hx1050_0
              replace hx1050_1 := pw_cell_below HB.out hx1050_1
              replace hx1050_2 := pw_cell_below HB.out hx1050_2
              replace hx1050_3 := pw_cell_below HB.out hx1050_3
              have HR1050_3 := Aside0.mk hi1050_3
              have HC1050_3 := Aside0.mk hl1050_3
              clear hi1050_3 hl1050_3
              replace p1050 := eq_true p1050
              replace q1050 := eq_true q1050
              have ea_ := Option.some.inj (hx1048_3.symm.trans hx1050_3)
              injection ea_ with ea_ en_ ec_
              subst ea_
              subst ec_
              clear en_
              have p1052 : 0 ≤ (x5_3 : Int) := dq_
              have q1052 : x5_3 < (l0_1.length : Int) := dq_
              obtain ⟨ad1052, A1052_3, c1052_3, e1052, hx1052_0, hx1052_1, hx1052_2, hx1052_3, hl1052_3, hi1052_3⟩ := at_T108 HR0_1.out x5_3 p1052 q1052
              have hw1052_3 := hx1052_3
              have hw1052_2 := hx1052_2
              have hw1052_1 := hx1052_1
              have hw1052_0 := hx1052_0
              obtain rfl : ad1048 = ad1052 := (by injection e1052)
              replace hx1052_0 := pw_cell_below HB.out hx1052_0
              replace hx1052_1 := pw_cell_below HB.out hx1052_1
              replace hx1052_2 := pw_cell_below HB.out hx1052_2
              replace hx1052_3 := pw_cell_below HB.out hx1052_3
              have HR1052_3 := Aside0.mk hi1052_3
              have HC1052_3 := Aside0.mk hl1052_3
              clear hi1052_3 hl1052_3
              replace p1052 := eq_true p1052
              replace q1052 := eq_true q1052
              refine start_ (n := 29) (S := fun w' => w'.cell? ⟨gb1041, 0, none⟩ = some (.slice A0_0 l0_0.length c0_0) ∧ w'.cell? ⟨gb1041, 1, none⟩ = some (.slice (some ad1048) l0_1.length c0_1) ∧ w'.cell? (ad1048.add ((x5_3).toNat * 4)) = some (.string ((rd_T108 l0_1 x5_3).f0)) ∧ w'.cell? ⟨(ad1048.add ((x5_3).toNat * 4)).block, (ad1048.add ((x5_3).toNat * 4)).off + 1, none⟩ = some (.bool ((rd_T108 l0_1 x5_3).f1.f0)) ∧ w'.cell? ⟨(ad1048.add ((x5_3).toNat * 4)).block, (ad1048.add ((x5_3).toNat * 4)).off + 2, none⟩ = some (.string ((rd_T108 l0_1 x5_3).f1.f1)) ∧ w'.cell? ⟨(ad1048.add ((x5_3).toNat * 4)).block, (ad1048.add ((x5_3).toNat * 4)).off + 3, none⟩ = some (.slice A1048_3 ((rd_T108 l0_1 x5_3).f1.f2).length c1048_3) ∧ w'.cell? (ad1048.add ((x5_3).toNat * 4)) = some (.string ((rd_T108 l0_1 x5_3).f0)) ∧ w'.cell? ⟨(ad1048.add ((x5_3).toNat * 4)).block, (ad1048.add ((x5_3).toNat * 4)).off + 1, none⟩ = some (.bool ((rd_T108 l0_1 x5_3).f1.f0)) ∧ w'.cell? ⟨(ad1048.add ((x5_3).toNat * 4)).block, (ad1048.add ((x5_3).toNat * 4)).off + 2, none⟩ = some (.string ((rd_T108 l0_1 x5_3).f1.f1)) ∧ w'.cell? ⟨(ad1048.add ((x5_3).toNat * 4)).block, (ad1048.add ((x5_3).toNat * 4)).off + 3, none⟩ = some (.slice A1048_3 ((rd_T108 l0_1 x5_3).f1.f2).length c1048_3) ∧ w'.cell? (ad1048.add ((x5_3).toNat * 4)) = some (.string ((rd_T108 l0_1 x5_3).f0)) ∧ w'.cell? ⟨(ad1048.add ((x5_3).toNat * 4)).block, (ad1048.add ((x5_3).toNat * 4)).off + 1, none⟩ = some (.bool ((rd_T108 l0_1 x5_3).f1.f0)) ∧ w'.cell? ⟨(ad1048.add ((x5_3).toNat * 4)).block, (ad1048.add ((x5_3).toNat * 4)).off + 2, none⟩ = some (.string ((rd_T108 l0_1 x5_3).f1.f1)) ∧ w'.cell? ⟨(ad1048.add ((x5_3).toNat * 4)).block, (ad1048.add ((x5_3).toNat * 4)).off + 3, none⟩ = some (.slice A1052_3 ((rd_T108 l0_1 x5_3).f1.f2).length c1052_3)) (ds := []) #[false, false, false, false, false, false, false, false, false, false, false, false, false, false, false, false, false, false, false, false, false, false, false, false, false, false, false, false, false] (by kernel_rfl) rfl rfl ⟨(blk_cell BK1041.out 0).trans rfl, (blk_cell BK1041.out 1).trans rfl, (pw_cell_below HB.out hw1048_0), (pw_cell_below HB.out hw1048_1), (pw_cell_below HB.out hw1048_2), (pw_cell_below HB.out hw1048_3), (pw_cell_below HB.out hw1050_0), (pw_cell_below HB.out hw1050_1), (pw_cell_below HB.out hw1050_2), (pw_cell_below HB.out hw1050_3), (pw_cell_below HB.out hw1052_0), (pw_cell_below HB.out hw1052_1), (pw_cell_below HB.out hw1052_2), (pw_cell_below HB.out hw1052_3)⟩ (fun hHeld => ?_); refine with_tabW sequentref04_Check.tab16 sequentref04_Check.bits16 (fun HT_ HW_ => ?_)
              generalize wr.drew = w37 at BK1041 HB HR1048_3 HR1050_3 HR1052_3 hx1048_0 hx1048_1 hx1048_2 hx1048_3 hx1050_0 hx1050_1 hx1050_2 hx1050_3 hx1052_0 hx1052_1 hx1052_2 hx1052_3 hHeld ⊢
              refine pure_ (i := 0) (N := some 75) (v := ?_) (a' := ?_) #[true, false, false, false, false, false, false, false, false, false, false, false, false, false, false, false, false, false, false, false, false, false, false, false, false, false, false, false, false] rfl rfl (any_of HT_.out (by kernel_rfl)) (fun _ _ _ h => h) (Or.inl ⟨by rfl, ?_⟩) ?_ ?_
              rotate_left
              ·intro w'
               go_simp
               with_reducible rfl
              rotate_left
              ·simp only [Act.put, List.setIfInBounds_toArray, List.set_cons_zero, List.set_cons_succ, i64_w, i32_w]
               rfl
              refine pure_ (i := 2) (N := some 77) (v := ?_) (a' := ?_) #[true, false, true, false, false, false, false, false, false, false, false, false, false, false, false, false, false, false, false, false, false, false, false, false, false, false, false, false, false] rfl rfl (any_of HT_.out (by kernel_rfl)) (fun _ _ _ h => h) (Or.inl ⟨by rfl, ?_⟩) ?_ ?_
              rotate_left
              ·intro w'
               go_simp
               with_reducible rfl
              rotate_left
              ·simp only [Act.put, List.setIfInBounds_toArray, List.set_cons_zero, List.set_cons_succ, i64_w, i32_w]
               rfl
              refine take_ (i := 1) (N := some 76) (v := ?_) (a' := ?_) #[true, true, true, false, false, false, false, false, false, false, false, false, false, false, false, false, false, false, false, false, false, false, false, false, false, false, false, false, false] rfl rfl (take_ofW HT_.out HW_.out (by kernel_rfl)) (fun _ _ _ h => h) (Or.inl ⟨by rfl, ?_⟩) hHeld ?_ ?_
              rotate_left
              ·rintro w' ⟨s0, s1, s2, s3, s4, s5, s6, s7, s8, s9, s10, s11, s12, s13⟩
               go_simp
               with_reducible rfl
              rotate_left
              ·simp only [Act.put, List.setIfInBounds_toArray, List.set_cons_zero, List.set_cons_succ, i64_w, i32_w]
               rfl
              refine pure_ (i := 3) (N := some 78) (v := ?_) (a' := ?_) #[true, true, true, true, false, false, false, false, false, false, false, false, false, false, false, false, false, false, false, false, false, false, false, false, false, false, false, false, false] rfl rfl (any_of HT_.out (by kernel_rfl)) (fun _ _ _ h => h) (Or.inl ⟨by rfl, ?_⟩) ?_ ?_
              rotate_left
              ·intro w'
               go_simp
               with_reducible rfl
              rotate_left
              ·simp only [Act.put, List.setIfInBounds_toArray, List.set_cons_zero, List.set_cons_succ, i64_w, i32_w]
               rfl
              refine pure_ (i := 4) (N := some 79) (v := ?_) (a' := ?_) #[true, true, true, true, true, false, false, false, false, false, false, false, false, false, false, false, false, false, false, false, false, false, false, false, false, false, false, false, false] rfl rfl (any_of HT_.out (by kernel_rfl)) (fun _ _ _ h => h) (Or.inl ⟨by rfl, ?_⟩) ?_ ?_
              rotate_left
              ·intro w'
               go_simp
               with_reducible rfl
              rotate_left
              ·simp only [Act.put, List.setIfInBounds_toArray, List.set_cons_zero, List.set_cons_succ, i64_w, i32_w]
               rfl
              refine take_ (i := 5) (N := some 80) (v := ?_) (a' := ?_) #[true, true, true, true, true, true, false, false, false, false, false, false, false, false, false, false, false, false, false, false, false, false, false, false, false, false, false, false, false] rfl rfl (take_ofW HT_.out HW_.out (by kernel_rfl)) (fun _ _ _ h => h) (Or.inl ⟨by rfl, ?_⟩) hHeld ?_ ?_
              rotate_left
              ·rintro w' ⟨s0, s1, s2, s3, s4, s5, s6, s7, s8, s9, s10, s11, s12, s13⟩
               go_simp
               with_reducible rfl
              rotate_left
              ·simp only [Act.put, List.setIfInBounds_toArray, List.set_cons_zero, List.set_cons_succ, i64_w, i32_w]
               rfl
              refine one_ (i := 6) (N := some 81) #[true, true, true, true, true, true, true, false, false, false, false, false, false, false, false, false, false, false, false, false, false, false, false, false, false, false, false, false, false] rfl rfl (one_of HT_.out (by kernel_rfl)) (by decide) (fun K hK => ?_)
              refine goes_ Try.func50 (by kernel_rfl) rfl #[.string ((rd_T108 l0_1 x5_3).f0)] (by rfl) rfl rfl (by (try simp only [List.map_toArray, List.map_cons, List.map_nil]); first | done | rfl | (simp only [List.length_drop, List.length_take]; rfl)) ?_
              with_reducible refine (sequentref02_Name.calls k3 ((rd_T108 l0_1 x5_3).f0) true _ A32.out).mono ?_
              rintro e w' ⟨rfl, ⟨nd, rfl⟩⟩
              refine ⟨_, rfl, ?_⟩
              refine hK.out _ _ ⟨(blk_cell BK1041.out 0).trans rfl, (blk_cell BK1041.out 1).trans rfl, (pw_cell_below HB.out hw1048_0), (pw_cell_below HB.out hw1048_1), (pw_cell_below HB.out hw1048_2), (pw_cell_below HB.out hw1048_3), (pw_cell_below HB.out hw1050_0), (pw_cell_below HB.out hw1050_1), (pw_cell_below HB.out hw1050_2), (pw_cell_below HB.out hw1050_3), (pw_cell_below HB.out hw1052_0), (pw_cell_below HB.out hw1052_1), (pw_cell_below HB.out hw1052_2), (pw_cell_below HB.out hw1052_3)⟩ (fun hHeld => ?_)
              clear hK K
              refine norm_ (a' := ?_) ?_ ?_
              rotate_left
              ·show Act.put _ (some 81) _ = _
               simp only [Act.put, List.setIfInBounds_toArray, List.set_cons_zero, List.set_cons_succ, i64_w, i32_w]
               rfl
              refine pure_ (i := 7) (N := some 82) (v := ?_) (a' := ?_) #[true, true, true, true, true, true, true, true, false, false, false, false, false, false, false, false, false, false, false, false, false, false, false, false, false, false, false, false, false] rfl rfl (any_of HT_.out (by kernel_rfl)) (fun _ _ _ h => h) (Or.inl ⟨by rfl, ?_⟩) ?_ ?_
              rotate_left
              ·intro w'
               go_simp
               with_reducible rfl
              rotate_left
              ·simp only [Act.put, List.setIfInBounds_toArray, List.set_cons_zero, List.set_cons_succ, i64_w, i32_w]
               rfl
              refine pure_ (i := 8) (N := some 83) (v := ?_) (a' := ?_) #[true, true, true, true, true, true, true, true, true, false, false, false, false, false, false, false, false, false, false, false, false, false, false, false, false, false, false, false, false] rfl rfl (any_of HT_.out (by kernel_rfl)) (fun _ _ _ h => h) (Or.inl ⟨by rfl, ?_⟩) ?_ ?_
              rotate_left
              ·intro w'
               go_simp
               with_reducible rfl
              rotate_left
              ·simp only [Act.put, List.setIfInBounds_toArray, List.set_cons_zero, List.set_cons_succ, i64_w, i32_w]
               rfl
              refine pure_ (i := 9) (N := some 84) (v := ?_) (a' := ?_) #[true, true, true, true, true, true, true, true, true, true, false, false, false, false, false, false, false, false, false, false, false, false, false, false, false, false, false, false, false] rfl rfl (any_of HT_.out (by kernel_rfl)) (fun _ _ _ h => h) (Or.inl ⟨by rfl, ?_⟩) ?_ ?_
              rotate_left
              ·intro w'
               go_simp
               with_reducible rfl
              rotate_left
              ·simp only [Act.put, List.setIfInBounds_toArray, List.set_cons_zero, List.set_cons_succ, i64_w, i32_w]
               rfl
              refine pure_ (i := 11) (N := some 86) (v := ?_) (a' := ?_) #[true, true, true, true, true, true, true, true, true, true, false, true, false, false, false, false, false, false, false, false, false, false, false, false, false, false, false, false, false] rfl rfl (any_of HT_.out (by kernel_rfl)) (fun _ _ _ h => h) (Or.inl ⟨by rfl, ?_⟩) ?_ ?_
              rotate_left
              ·intro w'
               go_simp
               with_reducible rfl
              rotate_left
              ·simp only [Act.put, List.setIfInBounds_toArray, List.set_cons_zero, List.set_cons_succ, i64_w, i32_w]
               rfl
              refine take_ (i := 10) (N := some 85) (v := ?_) (a' := ?_) #[true, true, true, true, true, true, true, true, true, true, true, true, false, false, false, false, false, false, false, false, false, false, false, false, false, false, false, false, false] rfl rfl (take_ofW HT_.out HW_.out (by kernel_rfl)) (fun _ _ _ h => h) (Or.inl ⟨by rfl, ?_⟩) hHeld ?_ ?_
              rotate_left
              ·rintro w' ⟨s0, s1, s2, s3, s4, s5, s6, s7, s8, s9, s10, s11, s12, s13⟩
               go_simp
               with_reducible rfl
              rotate_left
              ·simp only [Act.put, List.setIfInBounds_toArray, List.set_cons_zero, List.set_cons_succ, i64_w, i32_w]
               rfl
              refine pure_ (i := 12) (N := some 87) (v := ?_) (a' := ?_) #[true, true, true, true, true, true, true, true, true, true, true, true, true, false, false, false, false, false, false, false, false, false, false, false, false, false, false, false, false] rfl rfl (any_of HT_.out (by kernel_rfl)) (fun _ _ _ h => h) (Or.inl ⟨by rfl, ?_⟩) ?_ ?_
              rotate_left
              ·intro w'
               go_simp
               with_reducible rfl
              rotate_left
              ·simp only [Act.put, List.setIfInBounds_toArray, List.set_cons_zero, List.set_cons_succ, i64_w, i32_w]
               rfl
              refine pure_ (i := 13) (N := some 88) (v := ?_) (a' := ?_) #[true, true, true, true, true, true, true, true, true, true, true, true, true, true, false, false, false, false, false, false, false, false, false, false, false, false, false, false, false] rfl rfl (any_of HT_.out (by kernel_rfl)) (fun _ _ _ h => h) (Or.inl ⟨by rfl, ?_⟩) ?_ ?_
              rotate_left
              ·intro w'
               go_simp
               with_reducible rfl
              rotate_left
              ·simp only [Act.put, List.setIfInBounds_toArray, List.set_cons_zero, List.set_cons_succ, i64_w, i32_w]
               rfl
              refine take_ (i := 14) (N := some 89) (v := ?_) (a' := ?_) #[true, true, true, true, true, true, true, true, true, true, true, true, true, true, true, false, false, false, false, false, false, false, false, false, false, false, false, false, false] rfl rfl (take_ofW HT_.out HW_.out (by kernel_rfl)) (fun _ _ _ h => h) (Or.inl ⟨by rfl, ?_⟩) hHeld ?_ ?_
              rotate_left
              ·rintro w' ⟨s0, s1, s2, s3, s4, s5, s6, s7, s8, s9, s10, s11, s12, s13⟩
               go_simp
               with_reducible rfl
              rotate_left
              ·simp only [Act.put, List.setIfInBounds_toArray, List.set_cons_zero, List.set_cons_succ, i64_w, i32_w]
               rfl
              refine one_ (i := 15) (N := some 90) #[true, true, true, true, true, true, true, true, true, true, true, true, true, true, true, true, false, false, false, false, false, false, false, false, false, false, false, false, false] rfl rfl (one_of HT_.out (by kernel_rfl)) (by decide) (fun K hK => ?_)
              refine goes_ Try.func150 (by kernel_rfl) rfl #[.agg #[.bool ((rd_T108 l0_1 x5_3).f1.f0), .string ((rd_T108 l0_1 x5_3).f1.f1), .slice A1048_3 ((rd_T108 l0_1 x5_3).f1.f2).length c1048_3]] (by rfl) rfl rfl (by (try simp only [List.map_toArray, List.map_cons, List.map_nil]); first | done | rfl | (simp only [List.length_drop, List.length_take]; rfl)) ?_
              with_reducible refine (sequentref01_Valid.calls k3 ((rd_T108 l0_1 x5_3).f1.f0) ((rd_T108 l0_1 x5_3).f1.f1) _ _ ((rd_T108 l0_1 x5_3).f1.f2) true _ ?side1 ?side2 A34.out).mono ?_
              (case side1 => repeat (first | exact (Kd.C_below HR1050_3.out bel_) | (with_reducible refine Kd.C_alloc ?_ _) | (with_reducible refine Kd.C_drewN ?_ _) | (with_reducible refine Kd.C_drew ?_)))
              (case side2 => exact HC1050_3.out)
              rintro e w38 ⟨rfl, hb⟩
              refine ⟨_, rfl, ?_⟩
              have n0_ := Aside0.mk (blk_below (g := gb1041) (o := .cells #[.slice A0_0 l0_0.length c0_0, .slice (some ad1048) l0_1.length c0_1] 94 (0, 0)) (bk_ BK1041) hb)
              have n1_ := Aside0.mk (below_step bel_ hb)
              clear BK1041
              clear HB
              have BK1041 := n0_
              have HB := n1_
              clear n0_ n1_
              (try clear hb)
              (try clear hb2)
              (try clear hk)
              (try clear hi)
              refine hK.out _ _ ⟨(blk_cell BK1041.out 0).trans rfl, (blk_cell BK1041.out 1).trans rfl, (pw_cell_below HB.out hw1048_0), (pw_cell_below HB.out hw1048_1), (pw_cell_below HB.out hw1048_2), (pw_cell_below HB.out hw1048_3), (pw_cell_below HB.out hw1050_0), (pw_cell_below HB.out hw1050_1), (pw_cell_below HB.out hw1050_2), (pw_cell_below HB.out hw1050_3), (pw_cell_below HB.out hw1052_0), (pw_cell_below HB.out hw1052_1), (pw_cell_below HB.out hw1052_2), (pw_cell_below HB.out hw1052_3)⟩ (fun hHeld => ?_)
              clear hK K
              refine norm_ (a' := ?_) ?_ ?_
              rotate_left
              ·show Act.put _ (some 90) _ = _
               simp only [Act.put, List.setIfInBounds_toArray, List.set_cons_zero, List.set_cons_succ, i64_w, i32_w]
               rfl
              refine pure_ (i := 16) (N := some 91) (v := ?_) (a' := ?_) #[true, true, true, true, true, true, true, true, true, true, true, true, true, true, true, true, true, false, false, false, false, false, false, false, false, false, false, false, false] rfl rfl (any_of HT_.out (by kernel_rfl)) (fun _ _ _ h => h) (Or.inl ⟨by rfl, ?_⟩) ?_ ?_
              rotate_left
              ·intro w'
               go_simp
               with_reducible rfl
              rotate_left
              ·simp only [Act.put, List.setIfInBounds_toArray, List.set_cons_zero, List.set_cons_succ, i64_w, i32_w]
               rfl
              refine pure_ (i := 17) (N := some 92) (v := ?_) (a' := ?_) #[true, true, true, true, true, true, true, true, true, true, true, true, true, true, true, true, true, true, false, false, false, false, false, false, false, false, false, false, false] rfl rfl (any_of HT_.out (by kernel_rfl)) (fun _ _ _ h => h) (Or.inl ⟨by rfl, ?_⟩) ?_ ?_
              rotate_left
              ·intro w'
               go_simp
               with_reducible rfl
              rotate_left
              ·simp only [Act.put, List.setIfInBounds_toArray, List.set_cons_zero, List.set_cons_succ, i64_w, i32_w]
               rfl
              refine pure_ (i := 18) (N := some 93) (v := ?_) (a' := ?_) #[true, true, true, true, true, true, true, true, true, true, true, true, true, true, true, true, true, true, true, false, false, false, false, false, false, false, false, false, false] rfl rfl (any_of HT_.out (by kernel_rfl)) (fun _ _ _ h => h) (Or.inl ⟨by rfl, ?_⟩) ?_ ?_
              rotate_left
              ·intro w'
               go_simp
               with_reducible rfl
              rotate_left
              ·simp only [Act.put, List.setIfInBounds_toArray, List.set_cons_zero, List.set_cons_succ, i64_w, i32_w]
               rfl
              refine pure_ (i := 20) (N := some 95) (v := ?_) (a' := ?_) #[true, true, true, true, true, true, true, true, true, true, true, true, true, true, true, true, true, true, true, false, true, false, false, false, false, false, false, false, false] rfl rfl (any_of HT_.out (by kernel_rfl)) (fun _ _ _ h => h) (Or.inl ⟨by rfl, ?_⟩) ?_ ?_
              rotate_left
              ·intro w'
               go_simp
               with_reducible rfl
              rotate_left
              ·simp only [Act.put, List.setIfInBounds_toArray, List.set_cons_zero, List.set_cons_succ, i64_w, i32_w]
               rfl
              refine pure_ (i := 22) (N := some 97) (v := ?_) (a' := ?_) #[true, true, true, true, true, true, true, true, true, true, true, true, true, true, true, true, true, true, true, false, true, false, true, false, false, false, false, false, false] rfl rfl (any_of HT_.out (by kernel_rfl)) (fun _ _ _ h => h) (Or.inl ⟨by rfl, ?_⟩) ?_ ?_
              rotate_left
              ·intro w'
               go_simp
               with_reducible rfl
              rotate_left
              ·simp only [Act.put, List.setIfInBounds_toArray, List.set_cons_zero, List.set_cons_succ, i64_w, i32_w]
               rfl
              refine take_ (i := 19) (N := some 94) (v := ?_) (a' := ?_) #[true, true, true, true, true, true, true, true, true, true, true, true, true, true, true, true, true, true, true, true, true, false, true, false, false, false, false, false, false] rfl rfl (take_ofW HT_.out HW_.out (by kernel_rfl)) (fun _ _ _ h => h) (Or.inl ⟨by rfl, ?_⟩) hHeld ?_ ?_
              rotate_left
              ·rintro w' ⟨s0, s1, s2, s3, s4, s5, s6, s7, s8, s9, s10, s11, s12, s13⟩
               go_simp
               with_reducible rfl
              rotate_left
              ·simp only [Act.put, List.setIfInBounds_toArray, List.set_cons_zero, List.set_cons_succ, i64_w, i32_w]
               rfl
              refine take_ (i := 21) (N := some 96) (v := ?_) (a' := ?_) #[true, true, true, true, true, true, true, true, true, true, true, true, true, true, true, true, true, true, true, true, true, true, true, false, false, false, false, false, false] rfl rfl (take_ofW HT_.out HW_.out (by kernel_rfl)) (fun _ _ _ h => h) (Or.inl ⟨by rfl, ?_⟩) hHeld ?_ ?_
              rotate_left
              ·rintro w' ⟨s0, s1, s2, s3, s4, s5, s6, s7, s8, s9, s10, s11, s12, s13⟩
               go_simp
               with_reducible rfl
              rotate_left
              ·simp only [Act.put, List.setIfInBounds_toArray, List.set_cons_zero, List.set_cons_succ, i64_w, i32_w]
               rfl
              refine pure_ (i := 23) (N := some 98) (v := ?_) (a' := ?_) #[true, true, true, true, true, true, true, true, true, true, true, true, true, true, true, true, true, true, true, true, true, true, true, true, false, false, false, false, false] rfl rfl (any_of HT_.out (by kernel_rfl)) (fun _ _ _ h => h) (Or.inl ⟨by rfl, ?_⟩) ?_ ?_
              rotate_left
              ·intro w'
               go_simp
               with_reducible rfl
              rotate_left
              ·simp only [Act.put, List.setIfInBounds_toArray, List.set_cons_zero, List.set_cons_succ, i64_w, i32_w]
               rfl
              refine pure_ (i := 24) (N := some 99) (v := ?_) (a' := ?_) #[true, true, true, true, true, true, true, true, true, true, true, true, true, true, true, true, true, true, true, true, true, true, true, true, true, false, false, false, false] rfl rfl (any_of HT_.out (by kernel_rfl)) (fun _ _ _ h => h) (Or.inl ⟨by rfl, ?_⟩) ?_ ?_
              rotate_left
              ·intro w'
               go_simp
               with_reducible rfl
              rotate_left
              ·simp only [Act.put, List.setIfInBounds_toArray, List.set_cons_zero, List.set_cons_succ, i64_w, i32_w]
               rfl
              refine take_ (i := 25) (N := some 100) (v := ?_) (a' := ?_) #[true, true, true, true, true, true, true, true, true, true, true, true, true, true, true, true, true, true, true, true, true, true, true, true, true, true, false, false, false] rfl rfl (take_ofW HT_.out HW_.out (by kernel_rfl)) (fun _ _ _ h => h) (Or.inl ⟨by rfl, ?_⟩) hHeld ?_ ?_
              rotate_left
              ·rintro w' ⟨s0, s1, s2, s3, s4, s5, s6, s7, s8, s9, s10, s11, s12, s13⟩
               go_simp
               with_reducible rfl
              rotate_left
              ·simp only [Act.put, List.setIfInBounds_toArray, List.set_cons_zero, List.set_cons_succ, i64_w, i32_w]
               rfl
              refine one_ (i := 26) (N := some 101) #[true, true, true, true, true, true, true, true, true, true, true, true, true, true, true, true, true, true, true, true, true, true, true, true, true, true, true, false, false] rfl rfl (one_of HT_.out (by kernel_rfl)) (by decide) (fun K hK => ?_)
              refine goes_ Try.func151 (by kernel_rfl) rfl #[.agg #[.slice A0_0 l0_0.length c0_0, .slice (some ad1048) l0_1.length c0_1], .agg #[.bool ((rd_T108 l0_1 x5_3).f1.f0), .string ((rd_T108 l0_1 x5_3).f1.f1), .slice A1048_3 ((rd_T108 l0_1 x5_3).f1.f2).length c1048_3]] (by rfl) rfl rfl (by (try simp only [List.map_toArray, List.map_cons, List.map_nil]); first | done | rfl | (simp only [List.length_drop, List.length_take]; rfl)) ?_
              with_reducible refine (sequentref04_OverType.calls k3 _ _ l0_0 _ _ l0_1 ((rd_T108 l0_1 x5_3).f1.f0) ((rd_T108 l0_1 x5_3).f1.f1) _ _ ((rd_T108 l0_1 x5_3).f1.f2) t1053 _ ?side1 ?side2 ?side3 ?side4 ?side5 ?side6 A36.out).mono ?_
              (case side1 => repeat (first | exact (Kd.C_below HR0_0.out HB.out) | (with_reducible refine Kd.C_alloc ?_ _) | (with_reducible refine Kd.C_drewN ?_ _) | (with_reducible refine Kd.C_drew ?_)))
              (case side2 => exact HC0_0.out)
              (case side3 => repeat (first | exact (Kd.C_below HR0_1.out HB.out) | (with_reducible refine Kd.C_alloc ?_ _) | (with_reducible refine Kd.C_drewN ?_ _) | (with_reducible refine Kd.C_drew ?_)))
              (case side4 => exact HC0_1.out)
              (case side5 => repeat (first | exact (Kd.C_below HR1048_3.out HB.out) | (with_reducible refine Kd.C_alloc ?_ _) | (with_reducible refine Kd.C_drewN ?_ _) | (with_reducible refine Kd.C_drew ?_)))
              (case side6 => exact HC1048_3.out)
              rintro e w39 ⟨rfl, hb⟩
              refine ⟨_, rfl, ?_⟩
              have n0_ := Aside0.mk (blk_below (g := gb1041) (o := .cells #[.slice A0_0 l0_0.length c0_0, .slice (some ad1048) l0_1.length c0_1] 94 (0, 0)) (bk_ BK1041) hb)
              have n1_ := Aside0.mk (below_step bel_ hb)
              clear BK1041
              clear HB
              have BK1041 := n0_
              have HB := n1_
              clear n0_ n1_
              (try clear hb)
              (try clear hb2)
              (try clear hk)
              (try clear hi)
              refine hK.out _ _ ⟨(blk_cell BK1041.out 0).trans rfl, (blk_cell BK1041.out 1).trans rfl, (pw_cell_below HB.out hw1048_0), (pw_cell_below HB.out hw1048_1), (pw_cell_below HB.out hw1048_2), (pw_cell_below HB.out hw1048_3), (pw_cell_below HB.out hw1050_0), (pw_cell_below HB.out hw1050_1), (pw_cell_below HB.out hw1050_2), (pw_cell_below HB.out hw1050_3), (pw_cell_below HB.out hw1052_0), (pw_cell_below HB.out hw1052_1), (pw_cell_below HB.out hw1052_2), (pw_cell_below HB.out hw1052_3)⟩ (fun hHeld => ?_)
              clear hK K
              refine norm_ (a' := ?_) ?_ ?_
              rotate_left
              ·show Act.put _ (some 101) _ = _
               simp only [Act.put, List.setIfInBounds_toArray, List.set_cons_zero, List.set_cons_succ, i64_w, i32_w]
               rfl
              refine pure_ (i := 27) (N := some 102) (v := ?_) (a' := ?_) #[true, true, true, true, true, true, true, true, true, true, true, true, true, true, true, true, true, true, true, true, true, true, true, true, true, true, true, true, false] rfl rfl (any_of HT_.out (by kernel_rfl)) (fun _ _ _ h => h) (Or.inl ⟨by rfl, ?_⟩) ?_ ?_
              rotate_left
              ·intro w'
               go_simp
               with_reducible rfl
              rotate_left
              ·simp only [Act.put, List.setIfInBounds_toArray, List.set_cons_zero, List.set_cons_succ, i64_w, i32_w]
               rfl
              refine pure_ (i := 28) (N := some 103) (v := ?_) (a' := ?_) #[true, true, true, true, true, true, true, true, true, true, true, true, true, true, true, true, true, true, true, true, true, true, true, true, true, true, true, true, true] rfl rfl (any_of HT_.out (by kernel_rfl)) (fun _ _ _ h => h) (Or.inl ⟨by rfl, ?_⟩) ?_ ?_
              rotate_left
              ·intro w'
               go_simp
               with_reducible rfl
              rotate_left
              ·simp only [Act.put, List.setIfInBounds_toArray, List.set_cons_zero, List.set_cons_succ, i64_w, i32_w]
               rfl
              refine done_ (done_of HT_.out (by kernel_rfl)) ?_
              try go_wp2
              go_meet
              case rel => exact ⟨_, (!t1053), (by first | rfl | (simp; done) | (simp [*]; done)), H', ⟨by have := HJ1.out; have := HK2.out; have := HK3.out; first | omega | exact Nat.le_refl _⟩, ⟨bk_ BK1041⟩, ⟨bel_⟩⟩
             ·replace c35 := Bool.eq_false_iff.mpr c35
              subst c35
              have H1 : (sequentref04_Check.j5 k3 x5_3 true l0_0 l0_1) = some r := by rw [if_neg (show ¬ (false = true) by decide)] at H; exact H
              clear H
              have H := H1
              clear H1
              have H' := Aside0.mk H
              clear H
              try go_wp2
              have n0_ := Aside0.mk (blk_drew BK1041.out)
              have n1_ := Aside0.mk (below_drew1 HB.out)
              clear BK1041
              clear HB
              have BK1041 := n0_
              have HB := n1_
              clear n0_ n1_
              have p1048 : 0 ≤ (x5_3 : Int) := dq_
              have q1048 : x5_3 < (l0_1.length : Int) := dq_
              obtain ⟨ad1048, A1048_3, c1048_3, e1048, hx1048_0, hx1048_1, hx1048_2, hx1048_3, hl1048_3, hi1048_3⟩ := at_T108 HR0_1.out x5_3 p1048 q1048
              have hw1048_3 := hx1048_3
              have hw1048_2 := hx1048_2
              have hw1048_1 := hx1048_1
              have hw1048_0 := hx1048_0
              cases e1048
              replace hx1048_0 := pw_cell_below HB.out hx1048_0
              replace hx1048_1 := pw_cell_below HB.out hx1048_1
              replace hx1048_2 := pw_cell_below HB.out hx1048_2
              replace hx1048_3 := pw_cell_below HB.out hx1048_3
              have HR1048_3 := Aside0.mk hi1048_3
              have HC1048_3 := Aside0.mk hl1048_3
              clear hi1048_3 hl1048_3
              replace p1048 := eq_true p1048
              replace q1048 := eq_true q1048
              have p1050 : 0 ≤ (x5_3 : Int) := dq_
              have q1050 : x5_3 < (l0_1.length : Int) := dq_
              obtain ⟨ad1050, A1050_3, c1050_3, e1050, hx1050_0, hx1050_1, hx1050_2, hx1050_3, hl1050_3, hi1050_3⟩ := at_T108 HR0_1.out x5_3 p1050 q1050
              have hw1050_3 := hx1050_3
              have hw1050_2 := hx1050_2
              have hw1050_1 := hx1050_1
              have hw1050_0 := hx1050_0
              obtain rfl : ad1048 = ad1050 := (by injection e1050)
              replace hx1050_0 := pw_cell_below HB.out hx1050_0
              replace hx1050_1 := pw_cell_below HB.out hx1050_1
              replace hx1050_2 := pw_cell_below HB.out hx1050_2
              replace hx1050_3 := pw_cell_below HB.out hx1050_3
              have HR1050_3 := Aside0.mk hi1050_3
              have HC1050_3 := Aside0.mk hl1050_3
              clear hi1050_3 hl1050_3
              replace p1050 := eq_true p1050
              replace q1050 := eq_true q1050
              have ea_ := Option.some.inj (hx1048_3.symm.trans hx1050_3)
              injection ea_ with ea_ en_ ec_
              subst ea_
              subst ec_
              clear en_
              refine start_ (n := 29) (S := fun w' => w'.cell? ⟨gb1041, 0, none⟩ = some (.slice A0_0 l0_0.length c0_0) ∧ w'.cell? ⟨gb1041, 1, none⟩ = some (.slice (some ad1048) l0_1.length c0_1) ∧ w'.cell? (ad1048.add ((x5_3).toNat * 4)) = some (.string ((rd_T108 l0_1 x5_3).f0)) ∧ w'.cell? ⟨(ad1048.add ((x5_3).toNat * 4)).block, (ad1048.add ((x5_3).toNat * 4)).off + 1, none⟩ = some (.bool ((rd_T108 l0_1 x5_3).f1.f0)) ∧ w'.cell? ⟨(ad1048.add ((x5_3).toNat * 4)).block, (ad1048.add ((x5_3).toNat * 4)).off + 2, none⟩ = some (.string ((rd_T108 l0_1 x5_3).f1.f1)) ∧ w'.cell? ⟨(ad1048.add ((x5_3).toNat * 4)).block, (ad1048.add ((x5_3).toNat * 4)).off + 3, none⟩ = some (.slice A1048_3 ((rd_T108 l0_1 x5_3).f1.f2).length c1048_3) ∧ w'.cell? (ad1048.add ((x5_3).toNat * 4)) = some (.string ((rd_T108 l0_1 x5_3).f0)) ∧ w'.cell? ⟨(ad1048.add ((x5_3).toNat * 4)).block, (ad1048.add ((x5_3).toNat * 4)).off + 1, none⟩ = some (.bool ((rd_T108 l0_1 x5_3).f1.f0)) ∧ w'.cell? ⟨(ad1048.add ((x5_3).toNat * 4)).block, (ad1048.add ((x5_3).toNat * 4)).off + 2, none⟩ = some (.string ((rd_T108 l0_1 x5_3).f1.f1)) ∧ w'.cell? ⟨(ad1048.add ((x5_3).toNat * 4)).block, (ad1048.add ((x5_3).toNat * 4)).off + 3, none⟩ = some (.slice A1048_3 ((rd_T108 l0_1 x5_3).f1.f2).length c1048_3)) (ds := []) #[false, false, false, false, false, false, false, false, false, false, false, false, false, false, false, false, false, false, false, false, false, false, false, false, false, false, false, false, false] (by kernel_rfl) rfl rfl ⟨(blk_cell BK1041.out 0).trans rfl, (blk_cell BK1041.out 1).trans rfl, (pw_cell_below HB.out hw1048_0), (pw_cell_below HB.out hw1048_1), (pw_cell_below HB.out hw1048_2), (pw_cell_below HB.out hw1048_3), (pw_cell_below HB.out hw1050_0), (pw_cell_below HB.out hw1050_1), (pw_cell_below HB.out hw1050_2), (pw_cell_below HB.out hw1050_3)⟩ (fun hHeld => ?_); refine with_tabW sequentref04_Check.tab16 sequentref04_Check.bits16 (fun HT_ HW_ => ?_)
              generalize wr.drew = w40 at BK1041 HB HR1048_3 HR1050_3 hx1048_0 hx1048_1 hx1048_2 hx1048_3 hx1050_0 hx1050_1 hx1050_2 hx1050_3 hHeld ⊢
              refine pure_ (i := 0) (N := some 75) (v := ?_) (a' := ?_) #[true, false, false, false, false, false, false, false, false, false, false, false, false, false, false, false, false, false, false, false, false, false, false, false, false, false, false, false, false] rfl rfl (any_of HT_.out (by kernel_rfl)) (fun _ _ _ h => h) (Or.inl ⟨by rfl, ?_⟩) ?_ ?_
              rotate_left
              ·intro w'
               go_simp
               with_reducible rfl
              rotate_left
              ·simp only [Act.put, List.setIfInBounds_toArray, List.set_cons_zero, List.set_cons_succ, i64_w, i32_w]
               rfl
              refine pure_ (i := 2) (N := some 77) (v := ?_) (a' := ?_) #[true, false, true, false, false, false, false, false, false, false, false, false, false, false, false, false, false, false, false, false, false, false, false, false, false, false, false, false, false] rfl rfl (any_of HT_.out (by kernel_rfl)) (fun _ _ _ h => h) (Or.inl ⟨by rfl, ?_⟩) ?_ ?_
              rotate_left
              ·intro w'
               go_simp
               with_reducible rfl
              rotate_left
              ·simp only [Act.put, List.setIfInBounds_toArray, List.set_cons_zero, List.set_cons_succ, i64_w, i32_w]
               rfl
              refine take_ (i := 1) (N := some 76) (v := ?_) (a' := ?_) #[true, true, true, false, false, false, false, false, false, false, false, false, false, false, false, false, false, false, false, false, false, false, false, false, false, false, false, false, false] rfl rfl (take_ofW HT_.out HW_.out (by kernel_rfl)) (fun _ _ _ h => h) (Or.inl ⟨by rfl, ?_⟩) hHeld ?_ ?_
              rotate_left
              ·rintro w' ⟨s0, s1, s2, s3, s4, s5, s6, s7, s8, s9⟩
               go_simp
               with_reducible rfl
              rotate_left
              ·simp only [Act.put, List.setIfInBounds_toArray, List.set_cons_zero, List.set_cons_succ, i64_w, i32_w]
               rfl
              refine pure_ (i := 3) (N := some 78) (v := ?_) (a' := ?_) #[true, true, true, true, false, false, false, false, false, false, false, false, false, false, false, false, false, false, false, false, false, false, false, false, false, false, false, false, false] rfl rfl (any_of HT_.out (by kernel_rfl)) (fun _ _ _ h => h) (Or.inl ⟨by rfl, ?_⟩) ?_ ?_
              rotate_left
              ·intro w'
               go_simp
               with_reducible rfl
              rotate_left
              ·simp only [Act.put, List.setIfInBounds_toArray, List.set_cons_zero, List.set_cons_succ, i64_w, i32_w]
               rfl
              refine pure_ (i := 4) (N := some 79) (v := ?_) (a' := ?_) #[true, true, true, true, true, false, false, false, false, false, false, false, false, false, false, false, false, false, false, false, false, false, false, false, false, false, false, false, false] rfl rfl (any_of HT_.out (by kernel_rfl)) (fun _ _ _ h => h) (Or.inl ⟨by rfl, ?_⟩) ?_ ?_
              rotate_left
              ·intro w'
               go_simp
               with_reducible rfl
              rotate_left
              ·simp only [Act.put, List.setIfInBounds_toArray, List.set_cons_zero, List.set_cons_succ, i64_w, i32_w]
               rfl
              refine take_ (i := 5) (N := some 80) (v := ?_) (a' := ?_) #[true, true, true, true, true, true, false, false, false, false, false, false, false, false, false, false, false, false, false, false, false, false, false, false, false, false, false, false, false] rfl rfl (take_ofW HT_.out HW_.out (by kernel_rfl)) (fun _ _ _ h => h) (Or.inl ⟨by rfl, ?_⟩) hHeld ?_ ?_
              rotate_left
              ·rintro w' ⟨s0, s1, s2, s3, s4, s5, s6, s7, s8, s9⟩
               go_simp
               with_reducible rfl
              rotate_left
              ·simp only [Act.put, List.setIfInBounds_toArray, List.set_cons_zero, List.set_cons_succ, i64_w, i32_w]
               rfl
              refine one_ (i := 6) (N := some 81) #[true, true, true, true, true, true, true, false, false, false, false, false, false, false, false, false, false, false, false, false, false, false, false, false, false, false, false, false, false] rfl rfl (one_of HT_.out (by kernel_rfl)) (by decide) (fun K hK => ?_)
              refine goes_ Try.func50 (by kernel_rfl) rfl #[.string ((rd_T108 l0_1 x5_3).f0)] (by rfl) rfl rfl (by (try simp only [List.map_toArray, List.map_cons, List.map_nil]); first | done | rfl | (simp only [List.length_drop, List.length_take]; rfl)) ?_
              with_reducible refine (sequentref02_Name.calls k3 ((rd_T108 l0_1 x5_3).f0) true _ A32.out).mono ?_
              rintro e w' ⟨rfl, ⟨nd, rfl⟩⟩
              refine ⟨_, rfl, ?_⟩
              refine hK.out _ _ ⟨(blk_cell BK1041.out 0).trans rfl, (blk_cell BK1041.out 1).trans rfl, (pw_cell_below HB.out hw1048_0), (pw_cell_below HB.out hw1048_1), (pw_cell_below HB.out hw1048_2), (pw_cell_below HB.out hw1048_3), (pw_cell_below HB.out hw1050_0), (pw_cell_below HB.out hw1050_1), (pw_cell_below HB.out hw1050_2), (pw_cell_below HB.out hw1050_3)⟩ (fun hHeld => ?_)
              clear hK K
              refine norm_ (a' := ?_) ?_ ?_
              rotate_left
              ·show Act.put _ (some 81) _ = _
               simp only [Act.put, List.setIfInBounds_toArray, List.set_cons_zero, List.set_cons_succ, i64_w, i32_w]
               rfl
              refine pure_ (i := 7) (N := some 82) (v := ?_) (a' := ?_) #[true, true, true, true, true, true, true, true, false, false, false, false, false, false, false, false, false, false, false, false, false, false, false, false, false, false, false, false, false] rfl rfl (any_of HT_.out (by kernel_rfl)) (fun _ _ _ h => h) (Or.inl ⟨by rfl, ?_⟩) ?_ ?_
              rotate_left
              ·intro w'
               go_simp
               with_reducible rfl
              rotate_left
              ·simp only [Act.put, List.setIfInBounds_toArray, List.set_cons_zero, List.set_cons_succ, i64_w, i32_w]
               rfl
              refine pure_ (i := 8) (N := some 83) (v := ?_) (a' := ?_) #[true, true, true, true, true, true, true, true, true, false, false, false, false, false, false, false, false, false, false, false, false, false, false, false, false, false, false, false, false] rfl rfl (any_of HT_.out (by kernel_rfl)) (fun _ _ _ h => h) (Or.inl ⟨by rfl, ?_⟩) ?_ ?_
              rotate_left
              ·intro w'
               go_simp
               with_reducible rfl
              rotate_left
              ·simp only [Act.put, List.setIfInBounds_toArray, List.set_cons_zero, List.set_cons_succ, i64_w, i32_w]
               rfl
              refine pure_ (i := 9) (N := some 84) (v := ?_) (a' := ?_) #[true, true, true, true, true, true, true, true, true, true, false, false, false, false, false, false, false, false, false, false, false, false, false, false, false, false, false, false, false] rfl rfl (any_of HT_.out (by kernel_rfl)) (fun _ _ _ h => h) (Or.inl ⟨by rfl, ?_⟩) ?_ ?_
              rotate_left
              ·intro w'
               go_simp
               with_reducible rfl
              rotate_left
              ·simp only [Act.put, List.setIfInBounds_toArray, List.set_cons_zero, List.set_cons_succ, i64_w, i32_w]
               rfl
              refine pure_ (i := 11) (N := some 86) (v := ?_) (a' := ?_) #[true, true, true, true, true, true, true, true, true, true, false, true, false, false, false, false, false, false, false, false, false, false, false, false, false, false, false, false, false] rfl rfl (any_of HT_.out (by kernel_rfl)) (fun _ _ _ h => h) (Or.inl ⟨by rfl, ?_⟩) ?_ ?_
              rotate_left
              ·intro w'
               go_simp
               with_reducible rfl
              rotate_left
              ·simp only [Act.put, List.setIfInBounds_toArray, List.set_cons_zero, List.set_cons_succ, i64_w, i32_w]
               rfl
              refine take_ (i := 10) (N := some 85) (v := ?_) (a' := ?_) #[true, true, true, true, true, true, true, true, true, true, true, true, false, false, false, false, false, false, false, false, false, false, false, false, false, false, false, false, false] rfl rfl (take_ofW HT_.out HW_.out (by kernel_rfl)) (fun _ _ _ h => h) (Or.inl ⟨by rfl, ?_⟩) hHeld ?_ ?_
              rotate_left
              ·rintro w' ⟨s0, s1, s2, s3, s4, s5, s6, s7, s8, s9⟩
               go_simp
               with_reducible rfl
              rotate_left
              ·simp only [Act.put, List.setIfInBounds_toArray, List.set_cons_zero, List.set_cons_succ, i64_w, i32_w]
               rfl
              refine pure_ (i := 12) (N := some 87) (v := ?_) (a' := ?_) #[true, true, true, true, true, true, true, true, true, true, true, true, true, false, false, false, false, false, false, false, false, false, false, false, false, false, false, false, false] rfl rfl (any_of HT_.out (by kernel_rfl)) (fun _ _ _ h => h) (Or.inl ⟨by rfl, ?_⟩) ?_ ?_
              rotate_left
              ·intro w'
               go_simp
               with_reducible rfl
              rotate_left
              ·simp only [Act.put, List.setIfInBounds_toArray, List.set_cons_zero, List.set_cons_succ, i64_w, i32_w]
               rfl
              refine pure_ (i := 13) (N := some 88) (v := ?_) (a' := ?_) #[true, true, true, true, true, true, true, true, true, true, true, true, true, true, false, false, false, false, false, false, false, false, false, false, false, false, false, false, false] rfl rfl (any_of HT_.out (by kernel_rfl)) (fun _ _ _ h => h) (Or.inl ⟨by rfl, ?_⟩) ?_ ?_
              rotate_left
              ·intro w'
               go_simp
               with_reducible rfl
              rotate_left
              ·simp only [Act.put, List.setIfInBounds_toArray, List.set_cons_zero, List.set_cons_succ, i64_w, i32_w]
               rfl
              refine take_ (i := 14) (N := some 89) (v := ?_) (a' := ?_) #[true, true, true, true, true, true, true, true, true, true, true, true, true, true, true, false, false, false, false, false, false, false, false, false, false, false, false, false, false] rfl rfl (take_ofW HT_.out HW_.out (by kernel_rfl)) (fun _ _ _ h => h) (Or.inl ⟨by rfl, ?_⟩) hHeld ?_ ?_
              rotate_left
              ·rintro w' ⟨s0, s1, s2, s3, s4, s5, s6, s7, s8, s9⟩
               go_simp
               with_reducible rfl
              rotate_left
              ·simp only [Act.put, List.setIfInBounds_toArray, List.set_cons_zero, List.set_cons_succ, i64_w, i32_w]
               rfl
              refine one_ (i := 15) (N := some 90) #[true, true, true, true, true, true, true, true, true, true, true, true, true, true, true, true, false, false, false, false, false, false, false, false, false, false, false, false, false] rfl rfl (one_of HT_.out (by kernel_rfl)) (by decide) (fun K hK => ?_)
              refine goes_ Try.func150 (by kernel_rfl) rfl #[.agg #[.bool ((rd_T108 l0_1 x5_3).f1.f0), .string ((rd_T108 l0_1 x5_3).f1.f1), .slice A1048_3 ((rd_T108 l0_1 x5_3).f1.f2).length c1048_3]] (by rfl) rfl rfl (by (try simp only [List.map_toArray, List.map_cons, List.map_nil]); first | done | rfl | (simp only [List.length_drop, List.length_take]; rfl)) ?_
              with_reducible refine (sequentref01_Valid.calls k3 ((rd_T108 l0_1 x5_3).f1.f0) ((rd_T108 l0_1 x5_3).f1.f1) _ _ ((rd_T108 l0_1 x5_3).f1.f2) false _ ?side1 ?side2 A34.out).mono ?_
              (case side1 => repeat (first | exact (Kd.C_below HR1050_3.out bel_) | (with_reducible refine Kd.C_alloc ?_ _) | (with_reducible refine Kd.C_drewN ?_ _) | (with_reducible refine Kd.C_drew ?_)))
              (case side2 => exact HC1050_3.out)
              rintro e w41 ⟨rfl, hb⟩
              refine ⟨_, rfl, ?_⟩
              have n0_ := Aside0.mk (blk_below (g := gb1041) (o := .cells #[.slice A0_0 l0_0.length c0_0, .slice (some ad1048) l0_1.length c0_1] 94 (0, 0)) (bk_ BK1041) hb)
              have n1_ := Aside0.mk (below_step bel_ hb)
              clear BK1041
              clear HB
              have BK1041 := n0_
              have HB := n1_
              clear n0_ n1_
              (try clear hb)
              (try clear hb2)
              (try clear hk)
              (try clear hi)
              refine hK.out _ _ ⟨(blk_cell BK1041.out 0).trans rfl, (blk_cell BK1041.out 1).trans rfl, (pw_cell_below HB.out hw1048_0), (pw_cell_below HB.out hw1048_1), (pw_cell_below HB.out hw1048_2), (pw_cell_below HB.out hw1048_3), (pw_cell_below HB.out hw1050_0), (pw_cell_below HB.out hw1050_1), (pw_cell_below HB.out hw1050_2), (pw_cell_below HB.out hw1050_3)⟩ (fun hHeld => ?_)
              clear hK K
              refine norm_ (a' := ?_) ?_ ?_
              rotate_left
              ·show Act.put _ (some 90) _ = _
               simp only [Act.put, List.setIfInBounds_toArray, List.set_cons_zero, List.set_cons_succ, i64_w, i32_w]
               rfl
              refine pure_ (i := 16) (N := some 91) (v := ?_) (a' := ?_) #[true, true, true, true, true, true, true, true, true, true, true, true, true, true, true, true, true, false, false, false, false, false, false, false, false, false, false, false, false] rfl rfl (any_of HT_.out (by kernel_rfl)) (fun _ _ _ h => h) (Or.inl ⟨by rfl, ?_⟩) ?_ ?_
              rotate_left
              ·intro w'
               go_simp
               with_reducible rfl
              rotate_left
              ·simp only [Act.put, List.setIfInBounds_toArray, List.set_cons_zero, List.set_cons_succ, i64_w, i32_w]
               rfl
              refine pure_ (i := 17) (N := some 92) (v := ?_) (a' := ?_) #[true, true, true, true, true, true, true, true, true, true, true, true, true, true, true, true, true, true, false, false, false, false, false, false, false, false, false, false, false] rfl rfl (any_of HT_.out (by kernel_rfl)) (fun _ _ _ h => h) (Or.inl ⟨by rfl, ?_⟩) ?_ ?_
              rotate_left
              ·intro w'
               go_simp
               with_reducible rfl
              rotate_left
              ·simp only [Act.put, List.setIfInBounds_toArray, List.set_cons_zero, List.set_cons_succ, i64_w, i32_w]
               rfl
              refine pure_ (i := 18) (N := some 93) (v := ?_) (a' := ?_) #[true, true, true, true, true, true, true, true, true, true, true, true, true, true, true, true, true, true, true, false, false, false, false, false, false, false, false, false, false] rfl rfl (any_of HT_.out (by kernel_rfl)) (fun _ _ _ h => h) (Or.inl ⟨by rfl, ?_⟩) ?_ ?_
              rotate_left
              ·intro w'
               go_simp
               with_reducible rfl
              rotate_left
              ·simp only [Act.put, List.setIfInBounds_toArray, List.set_cons_zero, List.set_cons_succ, i64_w, i32_w]
               rfl
              refine pure_ (i := 19) (N := some 94) (v := undef) (a' := ?_) #[true, true, true, true, true, true, true, true, true, true, true, true, true, true, true, true, true, true, true, true, false, false, false, false, false, false, false, false, false] rfl rfl (any_of HT_.out (by kernel_rfl)) (fun _ _ _ h => h) (Or.inr ⟨by rfl, rfl⟩) ?_ ?_
              rotate_left
              ·simp only [Act.put, List.setIfInBounds_toArray, List.set_cons_zero, List.set_cons_succ, i64_w, i32_w]
               rfl
              refine pure_ (i := 20) (N := some 95) (v := undef) (a' := ?_) #[true, true, true, true, true, true, true, true, true, true, true, true, true, true, true, true, true, true, true, true, true, false, false, false, false, false, false, false, false] rfl rfl (any_of HT_.out (by kernel_rfl)) (fun _ _ _ h => h) (Or.inr ⟨by rfl, rfl⟩) ?_ ?_
              rotate_left
              ·simp only [Act.put, List.setIfInBounds_toArray, List.set_cons_zero, List.set_cons_succ, i64_w, i32_w]
               rfl
              refine pure_ (i := 21) (N := some 96) (v := undef) (a' := ?_) #[true, true, true, true, true, true, true, true, true, true, true, true, true, true, true, true, true, true, true, true, true, true, false, false, false, false, false, false, false] rfl rfl (any_of HT_.out (by kernel_rfl)) (fun _ _ _ h => h) (Or.inr ⟨by rfl, rfl⟩) ?_ ?_
              rotate_left
              ·simp only [Act.put, List.setIfInBounds_toArray, List.set_cons_zero, List.set_cons_succ, i64_w, i32_w]
               rfl
              refine pure_ (i := 22) (N := some 97) (v := undef) (a' := ?_) #[true, true, true, true, true, true, true, true, true, true, true, true, true, true, true, true, true, true, true, true, true, true, true, false, false, false, false, false, false] rfl rfl (any_of HT_.out (by kernel_rfl)) (fun _ _ _ h => h) (Or.inr ⟨by rfl, rfl⟩) ?_ ?_
              rotate_left
              ·simp only [Act.put, List.setIfInBounds_toArray, List.set_cons_zero, List.set_cons_succ, i64_w, i32_w]
               rfl
              refine pure_ (i := 23) (N := some 98) (v := undef) (a' := ?_) #[true, true, true, true, true, true, true, true, true, true, true, true, true, true, true, true, true, true, true, true, true, true, true, true, false, false, false, false, false] rfl rfl (any_of HT_.out (by kernel_rfl)) (fun _ _ _ h => h) (Or.inr ⟨by rfl, rfl⟩) ?_ ?_
              rotate_left
              ·simp only [Act.put, List.setIfInBounds_toArray, List.set_cons_zero, List.set_cons_succ, i64_w, i32_w]
               rfl
              refine pure_ (i := 24) (N := some 99) (v := undef) (a' := ?_) #[true, true, true, true, true, true, true, true, true, true, true, true, true, true, true, true, true, true, true, true, true, true, true, true, true, false, false, false, false] rfl rfl (any_of HT_.out (by kernel_rfl)) (fun _ _ _ h => h) (Or.inr ⟨by rfl, rfl⟩) ?_ ?_
              rotate_left
              ·simp only [Act.put, List.setIfInBounds_toArray, List.set_cons_zero, List.set_cons_succ, i64_w, i32_w]
               rfl
              refine pure_ (i := 25) (N := some 100) (v := undef) (a' := ?_) #[true, true, true, true, true, true, true, true, true, true, true, true, true, true, true, true, true, true, true, true, true, true, true, true, true, true, false, false, false] rfl rfl (any_of HT_.out (by kernel_rfl)) (fun _ _ _ h => h) (Or.inr ⟨by rfl, rfl⟩) ?_ ?_
              rotate_left
              ·simp only [Act.put, List.setIfInBounds_toArray, List.set_cons_zero, List.set_cons_succ, i64_w, i32_w]
               rfl
              refine pure_ (i := 26) (N := some 101) (v := undef) (a' := ?_) #[true, true, true, true, true, true, true, true, true, true, true, true, true, true, true, true, true, true, true, true, true, true, true, true, true, true, true, false, false] rfl rfl (any_of HT_.out (by kernel_rfl)) (fun _ _ _ h => h) (Or.inr ⟨by rfl, rfl⟩) ?_ ?_
              rotate_left
              ·simp only [Act.put, List.setIfInBounds_toArray, List.set_cons_zero, List.set_cons_succ, i64_w, i32_w]
               rfl
              refine pure_ (i := 27) (N := some 102) (v := undef) (a' := ?_) #[true, true, true, true, true, true, true, true, true, true, true, true, true, true, true, true, true, true, true, true, true, true, true, true, true, true, true, true, false] rfl rfl (any_of HT_.out (by kernel_rfl)) (fun _ _ _ h => h) (Or.inr ⟨by rfl, rfl⟩) ?_ ?_
              rotate_left
              ·simp only [Act.put, List.setIfInBounds_toArray, List.set_cons_zero, List.set_cons_succ, i64_w, i32_w]
               rfl
              refine pure_ (i := 28) (N := some 103) (v := ?_) (a' := ?_) #[true, true, true, true, true, true, true, true, true, true, true, true, true, true, true, true, true, true, true, true, true, true, true, true, true, true, true, true, true] rfl rfl (any_of HT_.out (by kernel_rfl)) (fun _ _ _ h => h) (Or.inl ⟨by rfl, ?_⟩) ?_ ?_
              rotate_left
              ·intro w'
               go_simp
               with_reducible rfl
              rotate_left
              ·simp only [Act.put, List.setIfInBounds_toArray, List.set_cons_zero, List.set_cons_succ, i64_w, i32_w]
               rfl
              refine done_ (done_of HT_.out (by kernel_rfl)) ?_
              try go_wp2
              go_meet
              case rel => exact ⟨_, (true), (by first | rfl | (simp; done) | (simp [*]; done)), H', ⟨by have := HJ1.out; have := HK2.out; have := HK3.out; first | omega | exact Nat.le_refl _⟩, ⟨bk_ BK1041⟩, ⟨bel_⟩⟩
            ·replace c33 := Bool.eq_false_iff.mpr c33
             subst c33
             have H1 : (sequentref04_Check.j5 k3 x5_3 true l0_0 l0_1) = some r := by rw [if_neg (show ¬ (false = true) by decide)] at H; exact H
             clear H
             have H := H1
             clear H1
             have H' := Aside0.mk H
             clear H
             try go_wp2
             have n0_ := Aside0.mk (blk_drew BK1041.out)
             have n1_ := Aside0.mk (below_drew1 HB.out)
             clear BK1041
             clear HB
             have BK1041 := n0_
             have HB := n1_
             clear n0_ n1_
             have p1048 : 0 ≤ (x5_3 : Int) := dq_
             have q1048 : x5_3 < (l0_1.length : Int) := dq_
             obtain ⟨ad1048, A1048_3, c1048_3, e1048, hx1048_0, hx1048_1, hx1048_2, hx1048_3, hl1048_3, hi1048_3⟩ := at_T108 HR0_1.out x5_3 p1048 q1048
             have hw1048_3 := hx1048_3
             have hw1048_2 := hx1048_2
             have hw1048_1 := hx1048_1
             have hw1048_0 := hx1048_0
             cases e1048
             replace hx1048_0 := pw_cell_below HB.out hx1048_0
             replace hx1048_1 := pw_cell_below HB.out hx1048_1
             replace hx1048_2 := pw_cell_below HB.out hx1048_2
             replace hx1048_3 := pw_cell_below HB.out hx1048_3
             have HR1048_3 := Aside0.mk hi1048_3
             have HC1048_3 := Aside0.mk hl1048_3
             clear hi1048_3 hl1048_3
             replace p1048 := eq_true p1048
             replace q1048 := eq_true q1048
             refine start_ (n := 29) (S := fun w' => w'.cell? ⟨gb1041, 0, none⟩ = some (.slice A0_0 l0_0.length c0_0) ∧ w'.cell? ⟨gb1041, 1, none⟩ = some (.slice (some ad1048) l0_1.length c0_1) ∧ w'.cell? (ad1048.add ((x5_3).toNat * 4)) = some (.string ((rd_T108 l0_1 x5_3).f0)) ∧ w'.cell? ⟨(ad1048.add ((x5_3).toNat * 4)).block, (ad1048.add ((x5_3).toNat * 4)).off + 1, none⟩ = some (.bool ((rd_T108 l0_1 x5_3).f1.f0)) ∧ w'.cell? ⟨(ad1048.add ((x5_3).toNat * 4)).block, (ad1048.add ((x5_3).toNat * 4)).off + 2, none⟩ = some (.string ((rd_T108 l0_1 x5_3).f1.f1)) ∧ w'.cell? ⟨(ad1048.add ((x5_3).toNat * 4)).block, (ad1048.add ((x5_3).toNat * 4)).off + 3, none⟩ = some (.slice A1048_3 ((rd_T108 l0_1 x5_3).f1.f2).length c1048_3)) (ds := []) #[false, false, false, false, false, false, false, false, false, false, false, false, false, false, false, false, false, false, false, false, false, false, false, false, false, false, false, false, false] (by kernel_rfl) rfl rfl ⟨(blk_cell BK1041.out 0).trans rfl, (blk_cell BK1041.out 1).trans rfl, (pw_cell_below HB.out hw1048_0), (pw_cell_below HB.out hw1048_1), (pw_cell_below HB.out hw1048_2), (pw_cell_below HB.out hw1048_3)⟩ (fun hHeld => ?_); refine with_tabW sequentref04_Check.tab16 sequentref04_Check.bits16 (fun HT_ HW_ => ?_)
             generalize wr.drew = w42 at BK1041 HB HR1048_3 hx1048_0 hx1048_1 hx1048_2 hx1048_3 hHeld ⊢
             refine pure_ (i := 0) (N := some 75) (v := ?_) (a' := ?_) #[true, false, false, false, false, false, false, false, false, false, false, false, false, false, false, false, false, false, false, false, false, false, false, false, false, false, false, false, false] rfl rfl (any_of HT_.out (by kernel_rfl)) (fun _ _ _ h => h) (Or.inl ⟨by rfl, ?_⟩) ?_ ?_
             rotate_left
             ·intro w'
              go_simp
              with_reducible rfl
             rotate_left
             ·simp only [Act.put, List.setIfInBounds_toArray, List.set_cons_zero, List.set_cons_succ, i64_w, i32_w]
              rfl
             refine pure_ (i := 2) (N := some 77) (v := ?_) (a' := ?_) #[true, false, true, false, false, false, false, false, false, false, false, false, false, false, false, false, false, false, false, false, false, false, false, false, false, false, false, false, false] rfl rfl (any_of HT_.out (by kernel_rfl)) (fun _ _ _ h => h) (Or.inl ⟨by rfl, ?_⟩) ?_ ?_
             rotate_left
             ·intro w'
              go_simp
              with_reducible rfl
             rotate_left
             ·simp only [Act.put, List.setIfInBounds_toArray, List.set_cons_zero, List.set_cons_succ, i64_w, i32_w]
              rfl
             refine take_ (i := 1) (N := some 76) (v := ?_) (a' := ?_) #[true, true, true, false, false, false, false, false, false, false, false, false, false, false, false, false, false, false, false, false, false, false, false, false, false, false, false, false, false] rfl rfl (take_ofW HT_.out HW_.out (by kernel_rfl)) (fun _ _ _ h => h) (Or.inl ⟨by rfl, ?_⟩) hHeld ?_ ?_
             rotate_left
             ·rintro w' ⟨s0, s1, s2, s3, s4, s5⟩
              go_simp
              with_reducible rfl
             rotate_left
             ·simp only [Act.put, List.setIfInBounds_toArray, List.set_cons_zero, List.set_cons_succ, i64_w, i32_w]
              rfl
             refine pure_ (i := 3) (N := some 78) (v := ?_) (a' := ?_) #[true, true, true, true, false, false, false, false, false, false, false, false, false, false, false, false, false, false, false, false, false, false, false, false, false, false, false, false, false] rfl rfl (any_of HT_.out (by kernel_rfl)) (fun _ _ _ h => h) (Or.inl ⟨by rfl, ?_⟩) ?_ ?_
             rotate_left
             ·intro w'
              go_simp
              with_reducible rfl
             rotate_left
             ·simp only [Act.put, List.setIfInBounds_toArray, List.set_cons_zero, List.set_cons_succ, i64_w, i32_w]
              rfl
             refine pure_ (i := 4) (N := some 79) (v := ?_) (a' := ?_) #[true, true, true, true, true, false, false, false, false, false, false, false, false, false, false, false, false, false, false, false, false, false, false, false, false, false, false, false, false] rfl rfl (any_of HT_.out (by kernel_rfl)) (fun _ _ _ h => h) (Or.inl ⟨by rfl, ?_⟩) ?_ ?_
             rotate_left
             ·intro w'
              go_simp
              with_reducible rfl
             rotate_left
             ·simp only [Act.put, List.setIfInBounds_toArray, List.set_cons_zero, List.set_cons_succ, i64_w, i32_w]
              rfl
             refine take_ (i := 5) (N := some 80) (v := ?_) (a' := ?_) #[true, true, true, true, true, true, false, false, false, false, false, false, false, false, false, false, false, false, false, false, false, false, false, false, false, false, false, false, false] rfl rfl (take_ofW HT_.out HW_.out (by kernel_rfl)) (fun _ _ _ h => h) (Or.inl ⟨by rfl, ?_⟩) hHeld ?_ ?_
             rotate_left
             ·rintro w' ⟨s0, s1, s2, s3, s4, s5⟩
              go_simp
              with_reducible rfl
             rotate_left
             ·simp only [Act.put, List.setIfInBounds_toArray, List.set_cons_zero, List.set_cons_succ, i64_w, i32_w]
              rfl
             refine one_ (i := 6) (N := some 81) #[true, true, true, true, true, true, true, false, false, false, false, false, false, false, false, false, false, false, false, false, false, false, false, false, false, false, false, false, false] rfl rfl (one_of HT_.out (by kernel_rfl)) (by decide) (fun K hK => ?_)
             refine goes_ Try.func50 (by kernel_rfl) rfl #[.string ((rd_T108 l0_1 x5_3).f0)] (by rfl) rfl rfl (by (try simp only [List.map_toArray, List.map_cons, List.map_nil]); first | done | rfl | (simp only [List.length_drop, List.length_take]; rfl)) ?_
             with_reducible refine (sequentref02_Name.calls k3 ((rd_T108 l0_1 x5_3).f0) false _ A32.out).mono ?_
             rintro e w' ⟨rfl, ⟨nd, rfl⟩⟩
             refine ⟨_, rfl, ?_⟩
             refine hK.out _ _ ⟨(blk_cell BK1041.out 0).trans rfl, (blk_cell BK1041.out 1).trans rfl, (pw_cell_below HB.out hw1048_0), (pw_cell_below HB.out hw1048_1), (pw_cell_below HB.out hw1048_2), (pw_cell_below HB.out hw1048_3)⟩ (fun hHeld => ?_)
             clear hK K
             refine norm_ (a' := ?_) ?_ ?_
             rotate_left
             ·show Act.put _ (some 81) _ = _
              simp only [Act.put, List.setIfInBounds_toArray, List.set_cons_zero, List.set_cons_succ, i64_w, i32_w]
              rfl
             refine pure_ (i := 7) (N := some 82) (v := ?_) (a' := ?_) #[true, true, true, true, true, true, true, true, false, false, false, false, false, false, false, false, false, false, false, false, false, false, false, false, false, false, false, false, false] rfl rfl (any_of HT_.out (by kernel_rfl)) (fun _ _ _ h => h) (Or.inl ⟨by rfl, ?_⟩) ?_ ?_
             rotate_left
             ·intro w'
              go_simp
              with_reducible rfl
             rotate_left
             ·simp only [Act.put, List.setIfInBounds_toArray, List.set_cons_zero, List.set_cons_succ, i64_w, i32_w]
              rfl
             refine pure_ (i := 8) (N := some 83) (v := ?_) (a' := ?_) #[true, true, true, true, true, true, true, true, true, false, false, false, false, false, false, false, false, false, false, false, false, false, false, false, false, false, false, false, false] rfl rfl (any_of HT_.out (by kernel_rfl)) (fun _ _ _ h => h) (Or.inl ⟨by rfl, ?_⟩) ?_ ?_
             rotate_left
             ·intro w'
              go_simp
              with_reducible rfl
             rotate_left
             ·simp only [Act.put, List.setIfInBounds_toArray, List.set_cons_zero, List.set_cons_succ, i64_w, i32_w]
              rfl
             refine pure_ (i := 9) (N := some 84) (v := undef) (a' := ?_) #[true, true, true, true, true, true, true, true, true, true, false, false, false, false, false, false, false, false, false, false, false, false, false, false, false, false, false, false, false] rfl rfl (any_of HT_.out (by kernel_rfl)) (fun _ _ _ h => h) (Or.inr ⟨by rfl, rfl⟩) ?_ ?_
             rotate_left
             ·simp only [Act.put, List.setIfInBounds_toArray, List.set_cons_zero, List.set_cons_succ, i64_w, i32_w]
              rfl
             refine pure_ (i := 10) (N := some 85) (v := undef) (a' := ?_) #[true, true, true, true, true, true, true, true, true, true, true, false, false, false, false, false, false, false, false, false, false, false, false, false, false, false, false, false, false] rfl rfl (any_of HT_.out (by kernel_rfl)) (fun _ _ _ h => h) (Or.inr ⟨by rfl, rfl⟩) ?_ ?_
             rotate_left
             ·simp only [Act.put, List.setIfInBounds_toArray, List.set_cons_zero, List.set_cons_succ, i64_w, i32_w]
              rfl
             refine pure_ (i := 11) (N := some 86) (v := undef) (a' := ?_) #[true, true, true, true, true, true, true, true, true, true, true, true, false, false, false, false, false, false, false, false, false, false, false, false, false, false, false, false, false] rfl rfl (any_of HT_.out (by kernel_rfl)) (fun _ _ _ h => h) (Or.inr ⟨by rfl, rfl⟩) ?_ ?_
             rotate_left
             ·simp only [Act.put, List.setIfInBounds_toArray, List.set_cons_zero, List.set_cons_succ, i64_w, i32_w]
              rfl
             refine pure_ (i := 12) (N := some 87) (v := undef) (a' := ?_) #[true, true, true, true, true, true, true, true, true, true, true, true, true, false, false, false, false, false, false, false, false, false, false, false, false, false, false, false, false] rfl rfl (any_of HT_.out (by kernel_rfl)) (fun _ _ _ h => h) (Or.inr ⟨by rfl, rfl⟩) ?_ ?_
             rotate_left
             ·simp only [Act.put, List.setIfInBounds_toArray, List.set_cons_zero, List.set_cons_succ, i64_w, i32_w]
              rfl
             refine pure_ (i := 13) (N := some 88) (v := undef) (a' := ?_) #[true, true, true, true, true, true, true, true, true, true, true, true, true, true, false, false, false, false, false, false, false, false, false, false, false, false, false, false, false] rfl rfl (any_of HT_.out (by kernel_rfl)) (fun _ _ _ h => h) (Or.inr ⟨by rfl, rfl⟩) ?_ ?_
             rotate_left
             ·simp only [Act.put, List.setIfInBounds_toArray, List.set_cons_zero, List.set_cons_succ, i64_w, i32_w]
              rfl
             refine pure_ (i := 14) (N := some 89) (v := undef) (a' := ?_) #[true, true, true, true, true, true, true, true, true, true, true, true, true, true, true, false, false, false, false, false, false, false, false, false, false, false, false, false, false] rfl rfl (any_of HT_.out (by kernel_rfl)) (fun _ _ _ h => h) (Or.inr ⟨by rfl, rfl⟩) ?_ ?_
             rotate_left
             ·simp only [Act.put, List.setIfInBounds_toArray, List.set_cons_zero, List.set_cons_succ, i64_w, i32_w]
              rfl
             refine pure_ (i := 15) (N := some 90) (v := undef) (a' := ?_) #[true, true, true, true, true, true, true, true, true, true, true, true, true, true, true, true, false, false, false, false, false, false, false, false, false, false, false, false, false] rfl rfl (any_of HT_.out (by kernel_rfl)) (fun _ _ _ h => h) (Or.inr ⟨by rfl, rfl⟩) ?_ ?_
             rotate_left
             ·simp only [Act.put, List.setIfInBounds_toArray, List.set_cons_zero, List.set_cons_succ, i64_w, i32_w]
              rfl
             refine pure_ (i := 16) (N := some 91) (v := undef) (a' := ?_) #[true, true, true, true, true, true, true, true, true, true, true, true, true, true, true, true, true, false, false, false, false, false, false, false, false, false, false, false, false] rfl rfl (any_of HT_.out (by kernel_rfl)) (fun _ _ _ h => h) (Or.inr ⟨by rfl, rfl⟩) ?_ ?_
             rotate_left
             ·simp only [Act.put, List.setIfInBounds_toArray, List.set_cons_zero, List.set_cons_succ, i64_w, i32_w]
              rfl
             refine pure_ (i := 17) (N := some 92) (v := ?_) (a' := ?_) #[true, true, true, true, true, true, true, true, true, true, true, true, true, true, true, true, true, true, false, false, false, false, false, false, false, false, false, false, false] rfl rfl (any_of HT_.out (by kernel_rfl)) (fun _ _ _ h => h) (Or.inl ⟨by rfl, ?_⟩) ?_ ?_
             rotate_left
             ·intro w'
              go_simp
              with_reducible rfl
             rotate_left
             ·simp only [Act.put, List.setIfInBounds_toArray, List.set_cons_zero, List.set_cons_succ, i64_w, i32_w]
              rfl
             refine pure_ (i := 18) (N := some 93) (v := ?_) (a' := ?_) #[true, true, true, true, true, true, true, true, true, true, true, true, true, true, true, true, true, true, true, false, false, false, false, false, false, false, false, false, false] rfl rfl (any_of HT_.out (by kernel_rfl)) (fun _ _ _ h => h) (Or.inl ⟨by rfl, ?_⟩) ?_ ?_
             rotate_left
             ·intro w'
              go_simp
              with_reducible rfl
             rotate_left
             ·simp only [Act.put, List.setIfInBounds_toArray, List.set_cons_zero, List.set_cons_succ, i64_w, i32_w]
              rfl
             refine pure_ (i := 19) (N := some 94) (v := undef) (a' := ?_) #[true, true, true, true, true, true, true, true, true, true, true, true, true, true, true, true, true, true, true, true, false, false, false, false, false, false, false, false, false] rfl rfl (any_of HT_.out (by kernel_rfl)) (fun _ _ _ h => h) (Or.inr ⟨by rfl, rfl⟩) ?_ ?_
             rotate_left
             ·simp only [Act.put, List.setIfInBounds_toArray, List.set_cons_zero, List.set_cons_succ, i64_w, i32_w]
              rfl
             refine pure_ (i := 20) (N := some 95) (v := undef) (a' := ?_) #[true, true, true, true, true, true, true, true, true, true, true, true, true, true, true, true, true, true, true, true, true, false, false, false, false, false, false, false, false] rfl rfl (any_of HT_.out (by kernel_rfl)) (fun _ _ _ h => h) (Or.inr ⟨by rfl, rfl⟩) ?_ ?_
             rotate_left
             ·simp only [Act.put, List.setIfInBounds_toArray, List.set_cons_zero, List.set_cons_succ, i64_w, i32_w]
              rfl
             refine pure_ (i := 21) (N := some 96) (v := undef) (a' := ?_) #[true, true, true, true, true, true, true, true, true, true, true, true, true, true, true, true, true, true, true, true, true, true, false, false, false, false, false, false, false] rfl rfl (any_of HT_.out (by kernel_rfl)) (fun _ _ _ h => h) (Or.inr ⟨by rfl, rfl⟩) ?_ ?_
             rotate_left
             ·simp only [Act.put, List.setIfInBounds_toArray, List.set_cons_zero, List.set_cons_succ, i64_w, i32_w]
              rfl
             refine pure_ (i := 22) (N := some 97) (v := undef) (a' := ?_) #[true, true, true, true, true, true, true, true, true, true, true, true, true, true, true, true, true, true, true, true, true, true, true, false, false, false, false, false, false] rfl rfl (any_of HT_.out (by kernel_rfl)) (fun _ _ _ h => h) (Or.inr ⟨by rfl, rfl⟩) ?_ ?_
             rotate_left
             ·simp only [Act.put, List.setIfInBounds_toArray, List.set_cons_zero, List.set_cons_succ, i64_w, i32_w]
              rfl
             refine pure_ (i := 23) (N := some 98) (v := undef) (a' := ?_) #[true, true, true, true, true, true, true, true, true, true, true, true, true, true, true, true, true, true, true, true, true, true, true, true, false, false, false, false, false] rfl rfl (any_of HT_.out (by kernel_rfl)) (fun _ _ _ h => h) (Or.inr ⟨by rfl, rfl⟩) ?_ ?_
             rotate_left
             ·simp only [Act.put, List.setIfInBounds_toArray, List.set_cons_zero, List.set_cons_succ, i64_w, i32_w]
              rfl
             refine pure_ (i := 24) (N := some 99) (v := undef) (a' := ?_) #[true, true, true, true, true, true, true, true, true, true, true, true, true, true, true, true, true, true, true, true, true, true, true, true, true, false, false, false, false] rfl rfl (any_of HT_.out (by kernel_rfl)) (fun _ _ _ h => h) (Or.inr ⟨by rfl, rfl⟩) ?_ ?_
             rotate_left
             ·simp only [Act.put, List.setIfInBounds_toArray, List.set_cons_zero, List.set_cons_succ, i64_w, i32_w]
              rfl
             refine pure_ (i := 25) (N := some 100) (v := undef) (a' := ?_) #[true, true, true, true, true, true, true, true, true, true, true, true, true, true, true, true, true, true, true, true, true, true, true, true, true, true, false, false, false] rfl rfl (any_of HT_.out (by kernel_rfl)) (fun _ _ _ h => h) (Or.inr ⟨by rfl, rfl⟩) ?_ ?_
             rotate_left
             ·simp only [Act.put, List.setIfInBounds_toArray, List.set_cons_zero, List.set_cons_succ, i64_w, i32_w]
              rfl
             refine pure_ (i := 26) (N := some 101) (v := undef) (a' := ?_) #[true, true, true, true, true, true, true, true, true, true, true, true, true, true, true, true, true, true, true, true, true, true, true, true, true, true, true, false, false] rfl rfl (any_of HT_.out (by kernel_rfl)) (fun _ _ _ h => h) (Or.inr ⟨by rfl, rfl⟩) ?_ ?_
             rotate_left
             ·simp only [Act.put, List.setIfInBounds_toArray, List.set_cons_zero, List.set_cons_succ, i64_w, i32_w]
              rfl
             refine pure_ (i := 27) (N := some 102) (v := undef) (a' := ?_) #[true, true, true, true, true, true, true, true, true, true, true, true, true, true, true, true, true, true, true, true, true, true, true, true, true, true, true, true, false] rfl rfl (any_of HT_.out (by kernel_rfl)) (fun _ _ _ h => h) (Or.inr ⟨by rfl, rfl⟩) ?_ ?_
             rotate_left
             ·simp only [Act.put, List.setIfInBounds_toArray, List.set_cons_zero, List.set_cons_succ, i64_w, i32_w]
              rfl
             refine pure_ (i := 28) (N := some 103) (v := ?_) (a' := ?_) #[true, true, true, true, true, true, true, true, true, true, true, true, true, true, true, true, true, true, true, true, true, true, true, true, true, true, true, true, true] rfl rfl (any_of HT_.out (by kernel_rfl)) (fun _ _ _ h => h) (Or.inl ⟨by rfl, ?_⟩) ?_ ?_
             rotate_left
             ·intro w'
              go_simp
              with_reducible rfl
             rotate_left
             ·simp only [Act.put, List.setIfInBounds_toArray, List.set_cons_zero, List.set_cons_succ, i64_w, i32_w]
              rfl
             refine done_ (done_of HT_.out (by kernel_rfl)) ?_
             try go_wp2
             go_meet
             case rel => exact ⟨_, (true), (by first | rfl | (simp; done) | (simp [*]; done)), H', ⟨by have := HJ1.out; have := HK2.out; have := HK3.out; first | omega | exact Nat.le_refl _⟩, ⟨bk_ BK1041⟩, ⟨bel_⟩⟩
           ·rw [if_neg c31] at H
            exact absurd H (by simp)
          case rest =>
           clear HC29
           try clear c1
           try clear p1
           try clear q1
           try clear hx1
           try clear p2
           try clear c3
           try clear c5
           try clear c10
           try clear p10
           try clear q10
           try clear hx10
           try clear c15
           try clear c31
           try clear c33
           try clear c35
           try clear hx1048_0
           try clear hx1048_1
           try clear hx1048_2
           try clear hx1048_3
           try clear hx1050_0
           try clear hx1050_1
           try clear hx1050_2
           try clear hx1050_3
           try clear p1048
           try clear p1050
           try clear q1048
           try clear q1050
           obtain ⟨kq, x103_28, rfl, HA, HJ28, BK1041, HB⟩ := hcut
           cases kq with
           | zero => exact absurd HA.out (by simp [sequentref04_Check.j5])
           | succ kj28 =>
            have H := HA.out
            clear HA
            simp only [sequentref04_Check.j5] at H
            by_cases c43 : x103_28 = true
            ·subst c43
             have H1 : (some 8) = some r := by rw [if_pos rfl] at H; exact H
             clear H
             have H := H1
             clear H1
             obtain rfl := Option.some.inj H
             go_wp2
             go_ret
             exact ⟨by first | rfl | (simp [errW_none, errW_some] <;> rfl) | (simp [*, errW_none, errW_some] <;> rfl), bel_⟩
            ·replace c43 := Bool.eq_false_iff.mpr c43
             subst c43
             have H1 : (sequentref04_Check.l3 kj28 x5_3 0 l0_0 l0_1) = some r := by rw [if_neg (show ¬ (false = true) by decide)] at H; exact H
             clear H
             have H := H1
             clear H1
             have H' := Aside0.mk H
             clear H
             go_wp2
             go_loopg [6] kj28 (fun kq v6 w' => ∃ (x6_5 : Int), v6 = .int .i64 x6_5 ∧ Aside0 (sequentref04_Check.l3 kq x5_3 x6_5 l0_0 l0_1 = some r) ∧ Aside0 (kq ≤ kj28) ∧ Aside0 (w'.heap[gb1041]? = some (.cells #[(.slice A0_0 l0_0.length c0_0), (.slice A0_1 l0_1.length c0_1)] 94 (0, 0))) ∧ Aside0 (Below w.heap.size w w'))
             case atStart => exact ⟨(0), (by first | rfl | (simp; done) | (simp [*]; done)), H', ⟨Nat.le_refl _⟩, ⟨bk_ BK1041⟩, ⟨bel_⟩⟩
             case round =>
              clear H'
              try clear c1
              try clear p1
              try clear q1
              try clear hx1
              try clear p2
              try clear c3
              try clear c4
              try clear c5
              try clear c10
              try clear p10
              try clear q10
              try clear hx10
              try clear c15
              try clear c31
              try clear c33
              try clear c35
              try clear c43
              try clear hx1048_0
              try clear hx1048_1
              try clear hx1048_2
              try clear hx1048_3
              try clear hx1050_0
              try clear hx1050_1
              try clear hx1050_2
              try clear hx1050_3
              try clear p1
              try clear p10
              try clear p1048
              try clear p1050
              try clear p2
              try clear q1
              try clear q10
              try clear q1048
              try clear q1050
              obtain ⟨x6_5, rfl, HA, HK5, BK1041, HB⟩ := hrel
              cases gk with
              | zero => exact absurd HA.out (by simp [sequentref04_Check.l3])
              | succ k5 =>
               have H := HA.out
               clear HA
               simp only [sequentref04_Check.l3] at H
               by_cases c44 : x6_5 < x5_3
               ·rw [if_pos c44] at H
                have c44b0 : decide (x6_5 < x5_3) = true := decide_eq_true c44
                clear c44
                by_cases c45 : 0 ≤ x6_5
                ·rw [if_pos c45] at H
                 have c45b0 : decide (0 ≤ x6_5) = true := decide_eq_true c45
                 clear c45
                 by_cases c46 : x6_5 < (l0_1.length : Int)
                 ·rw [if_pos c46] at H
                  have c46b0 : decide (x6_5 < (l0_1.length : Int)) = true := decide_eq_true c46
                  clear c46
                  by_cases c47 : 0 ≤ x5_3
                  ·rw [if_pos c47] at H
                   have c47b0 : decide (0 ≤ x5_3) = true := decide_eq_true c47
                   clear c47
                   by_cases c48 : x5_3 < (l0_1.length : Int)
                   ·rw [if_pos c48] at H
                    have c48b0 : decide (x5_3 < (l0_1.length : Int)) = true := decide_eq_true c48
                    clear c48
                    by_cases c49 : ((rd_T108 l0_1 x6_5).f0).toList = ((rd_T108 l0_1 x5_3).f0).toList
                    ·rw [if_pos c49] at H
                     have c49b0 : (((rd_T108 l0_1 x6_5).f0).toList == ((rd_T108 l0_1 x5_3).f0).toList) = true := beq_iff_eq.mpr c49
                     have c49b1 : (((rd_T108 l0_1 x6_5).f0).toList != ((rd_T108 l0_1 x5_3).f0).toList) = false := bne_eq_false_iff_eq.mpr c49
                     clear c49
                     obtain rfl := Option.some.inj H
                     try go_wp2
                     have n0_ := Aside0.mk (blk_drew BK1041.out)
                     have n1_ := Aside0.mk (below_drew1 HB.out)
                     clear BK1041
                     clear HB
                     have BK1041 := n0_
                     have HB := n1_
                     clear n0_ n1_
                     have p1054 : 0 ≤ (x6_5 : Int) := dq_
                     have q1054 : x6_5 < (l0_1.length : Int) := dq_
                     obtain ⟨ad1054, A1054_3, c1054_3, e1054, hx1054_0, hx1054_1, hx1054_2, hx1054_3, hl1054_3, hi1054_3⟩ := at_T108 HR0_1.out x6_5 p1054 q1054
                     have hw1054_3 := hx1054_3
                     have hw1054_2 := hx1054_2
                     have hw1054_1 := hx1054_1
                     have hw1054_0 := hx1054_0
                     cases e1054
                     replace hx1054_0 := pw_cell_below HB.out hx1054_0
                     replace hx1054_1 := pw_cell_below HB.out hx1054_1
                     replace hx1054_2 := pw_cell_below HB.out hx1054_2
                     replace hx1054_3 := pw_cell_below HB.out hx1054_3
                     have HR1054_3 := Aside0.mk hi1054_3
                     have HC1054_3 := Aside0.mk hl1054_3
                     clear hi1054_3 hl1054_3
                     replace p1054 := eq_true p1054
                     replace q1054 := eq_true q1054
                     have p1055 : 0 ≤ (x5_3 : Int) := dq_
                     have q1055 : x5_3 < (l0_1.length : Int) := dq_
                     obtain ⟨ad1055, A1055_3, c1055_3, e1055, hx1055_0, hx1055_1, hx1055_2, hx1055_3, hl1055_3, hi1055_3⟩ := at_T108 HR0_1.out x5_3 p1055 q1055
                     have hw1055_3 := hx1055_3
                     have hw1055_2 := hx1055_2
                     have hw1055_1 := hx1055_1
                     have hw1055_0 := hx1055_0
                     obtain rfl : ad1054 = ad1055 := (by injection e1055)
                     replace hx1055_0 := pw_cell_below HB.out hx1055_0
                     replace hx1055_1 := pw_cell_below HB.out hx1055_1
                     replace hx1055_2 := pw_cell_below HB.out hx1055_2
                     replace hx1055_3 := pw_cell_below HB.out hx1055_3
                     have HR1055_3 := Aside0.mk hi1055_3
                     have HC1055_3 := Aside0.mk hl1055_3
                     clear hi1055_3 hl1055_3
                     replace p1055 := eq_true p1055
                     replace q1055 := eq_true q1055
                     refine start_ (n := 13) (S := fun w' => w'.cell? ⟨gb1041, 0, none⟩ = some (.slice A0_0 l0_0.length c0_0) ∧ w'.cell? ⟨gb1041, 1, none⟩ = some (.slice (some ad1054) l0_1.length c0_1) ∧ w'.cell? (ad1054.add ((x6_5).toNat * 4)) = some (.string ((rd_T108 l0_1 x6_5).f0)) ∧ w'.cell? ⟨(ad1054.add ((x6_5).toNat * 4)).block, (ad1054.add ((x6_5).toNat * 4)).off + 1, none⟩ = some (.bool ((rd_T108 l0_1 x6_5).f1.f0)) ∧ w'.cell? ⟨(ad1054.add ((x6_5).toNat * 4)).block, (ad1054.add ((x6_5).toNat * 4)).off + 2, none⟩ = some (.string ((rd_T108 l0_1 x6_5).f1.f1)) ∧ w'.cell? ⟨(ad1054.add ((x6_5).toNat * 4)).block, (ad1054.add ((x6_5).toNat * 4)).off + 3, none⟩ = some (.slice A1054_3 ((rd_T108 l0_1 x6_5).f1.f2).length c1054_3) ∧ w'.cell? (ad1054.add ((x5_3).toNat * 4)) = some (.string ((rd_T108 l0_1 x5_3).f0)) ∧ w'.cell? ⟨(ad1054.add ((x5_3).toNat * 4)).block, (ad1054.add ((x5_3).toNat * 4)).off + 1, none⟩ = some (.bool ((rd_T108 l0_1 x5_3).f1.f0)) ∧ w'.cell? ⟨(ad1054.add ((x5_3).toNat * 4)).block, (ad1054.add ((x5_3).toNat * 4)).off + 2, none⟩ = some (.string ((rd_T108 l0_1 x5_3).f1.f1)) ∧ w'.cell? ⟨(ad1054.add ((x5_3).toNat * 4)).block, (ad1054.add ((x5_3).toNat * 4)).off + 3, none⟩ = some (.slice A1055_3 ((rd_T108 l0_1 x5_3).f1.f2).length c1055_3)) (ds := []) #[false, false, false, false, false, false, false, false, false, false, false, false, false] (by kernel_rfl) rfl rfl ⟨(blk_cell BK1041.out 0).trans rfl, (blk_cell BK1041.out 1).trans rfl, (pw_cell_below HB.out hw1054_0), (pw_cell_below HB.out hw1054_1), (pw_cell_below HB.out hw1054_2), (pw_cell_below HB.out hw1054_3), (pw_cell_below HB.out hw1055_0), (pw_cell_below HB.out hw1055_1), (pw_cell_below HB.out hw1055_2), (pw_cell_below HB.out hw1055_3)⟩ (fun hHeld => ?_); refine with_tabW sequentref04_Check.tab21 sequentref04_Check.bits21 (fun HT_ HW_ => ?_)
                     generalize wr.drew = w50 at BK1041 HB HR1054_3 HR1055_3 hx1054_0 hx1054_1 hx1054_2 hx1054_3 hx1055_0 hx1055_1 hx1055_2 hx1055_3 hHeld ⊢
                     refine pure_ (i := 0) (N := some 109) (v := ?_) (a' := ?_) #[true, false, false, false, false, false, false, false, false, false, false, false, false] rfl rfl (any_of HT_.out (by kernel_rfl)) (fun _ _ _ h => h) (Or.inl ⟨by rfl, ?_⟩) ?_ ?_
                     rotate_left
                     ·intro w'
                      go_simp
                      with_reducible rfl
                     rotate_left
                     ·simp only [Act.put, List.setIfInBounds_toArray, List.set_cons_zero, List.set_cons_succ, i64_w, i32_w]
                      rfl
                     refine pure_ (i := 2) (N := some 111) (v := ?_) (a' := ?_) #[true, false, true, false, false, false, false, false, false, false, false, false, false] rfl rfl (any_of HT_.out (by kernel_rfl)) (fun _ _ _ h => h) (Or.inl ⟨by rfl, ?_⟩) ?_ ?_
                     rotate_left
                     ·intro w'
                      go_simp
                      with_reducible rfl
                     rotate_left
                     ·simp only [Act.put, List.setIfInBounds_toArray, List.set_cons_zero, List.set_cons_succ, i64_w, i32_w]
                      rfl
                     refine pure_ (i := 6) (N := some 115) (v := ?_) (a' := ?_) #[true, false, true, false, false, false, true, false, false, false, false, false, false] rfl rfl (any_of HT_.out (by kernel_rfl)) (fun _ _ _ h => h) (Or.inl ⟨by rfl, ?_⟩) ?_ ?_
                     rotate_left
                     ·intro w'
                      go_simp
                      with_reducible rfl
                     rotate_left
                     ·simp only [Act.put, List.setIfInBounds_toArray, List.set_cons_zero, List.set_cons_succ, i64_w, i32_w]
                      rfl
                     refine pure_ (i := 8) (N := some 117) (v := ?_) (a' := ?_) #[true, false, true, false, false, false, true, false, true, false, false, false, false] rfl rfl (any_of HT_.out (by kernel_rfl)) (fun _ _ _ h => h) (Or.inl ⟨by rfl, ?_⟩) ?_ ?_
                     rotate_left
                     ·intro w'
                      go_simp
                      with_reducible rfl
                     rotate_left
                     ·simp only [Act.put, List.setIfInBounds_toArray, List.set_cons_zero, List.set_cons_succ, i64_w, i32_w]
                      rfl
                     refine take_ (i := 1) (N := some 110) (v := ?_) (a' := ?_) #[true, true, true, false, false, false, true, false, true, false, false, false, false] rfl rfl (take_ofW HT_.out HW_.out (by kernel_rfl)) (fun _ _ _ h => h) (Or.inl ⟨by rfl, ?_⟩) hHeld ?_ ?_
                     rotate_left
                     ·rintro w' ⟨s0, s1, s2, s3, s4, s5, s6, s7, s8, s9⟩
                      go_simp
                      with_reducible rfl
                     rotate_left
                     ·simp only [Act.put, List.setIfInBounds_toArray, List.set_cons_zero, List.set_cons_succ, i64_w, i32_w]
                      rfl
                     refine pure_ (i := 3) (N := some 112) (v := ?_) (a' := ?_) #[true, true, true, true, false, false, true, false, true, false, false, false, false] rfl rfl (any_of HT_.out (by kernel_rfl)) (fun _ _ _ h => h) (Or.inl ⟨by rfl, ?_⟩) ?_ ?_
                     rotate_left
                     ·intro w'
                      go_simp
                      with_reducible rfl
                     rotate_left
                     ·simp only [Act.put, List.setIfInBounds_toArray, List.set_cons_zero, List.set_cons_succ, i64_w, i32_w]
                      rfl
                     refine pure_ (i := 4) (N := some 113) (v := ?_) (a' := ?_) #[true, true, true, true, true, false, true, false, true, false, false, false, false] rfl rfl (any_of HT_.out (by kernel_rfl)) (fun _ _ _ h => h) (Or.inl ⟨by rfl, ?_⟩) ?_ ?_
                     rotate_left
                     ·intro w'
                      go_simp
                      with_reducible rfl
                     rotate_left
                     ·simp only [Act.put, List.setIfInBounds_toArray, List.set_cons_zero, List.set_cons_succ, i64_w, i32_w]
                      rfl
                     refine take_ (i := 5) (N := some 114) (v := ?_) (a' := ?_) #[true, true, true, true, true, true, true, false, true, false, false, false, false] rfl rfl (take_ofW HT_.out HW_.out (by kernel_rfl)) (fun _ _ _ h => h) (Or.inl ⟨by rfl, ?_⟩) hHeld ?_ ?_
                     rotate_left
                     ·rintro w' ⟨s0, s1, s2, s3, s4, s5, s6, s7, s8, s9⟩
                      go_simp
                      with_reducible rfl
                     rotate_left
                     ·simp only [Act.put, List.setIfInBounds_toArray, List.set_cons_zero, List.set_cons_succ, i64_w, i32_w]
                      rfl
                     refine take_ (i := 7) (N := some 116) (v := ?_) (a' := ?_) #[true, true, true, true, true, true, true, true, true, false, false, false, false] rfl rfl (take_ofW HT_.out HW_.out (by kernel_rfl)) (fun _ _ _ h => h) (Or.inl ⟨by rfl, ?_⟩) hHeld ?_ ?_
                     rotate_left
                     ·rintro w' ⟨s0, s1, s2, s3, s4, s5, s6, s7, s8, s9⟩
                      go_simp
                      with_reducible rfl
                     rotate_left
                     ·simp only [Act.put, List.setIfInBounds_toArray, List.set_cons_zero, List.set_cons_succ, i64_w, i32_w]
                      rfl
                     refine pure_ (i := 9) (N := some 118) (v := ?_) (a' := ?_) #[true, true, true, true, true, true, true, true, true, true, false, false, false] rfl rfl (any_of HT_.out (by kernel_rfl)) (fun _ _ _ h => h) (Or.inl ⟨by rfl, ?_⟩) ?_ ?_
                     rotate_left
                     ·intro w'
                      go_simp
                      with_reducible rfl
                     rotate_left
                     ·simp only [Act.put, List.setIfInBounds_toArray, List.set_cons_zero, List.set_cons_succ, i64_w, i32_w]
                      rfl
                     refine pure_ (i := 10) (N := some 119) (v := ?_) (a' := ?_) #[true, true, true, true, true, true, true, true, true, true, true, false, false] rfl rfl (any_of HT_.out (by kernel_rfl)) (fun _ _ _ h => h) (Or.inl ⟨by rfl, ?_⟩) ?_ ?_
                     rotate_left
                     ·intro w'
                      go_simp
                      with_reducible rfl
                     rotate_left
                     ·simp only [Act.put, List.setIfInBounds_toArray, List.set_cons_zero, List.set_cons_succ, i64_w, i32_w]
                      rfl
                     refine take_ (i := 11) (N := some 120) (v := ?_) (a' := ?_) #[true, true, true, true, true, true, true, true, true, true, true, true, false] rfl rfl (take_ofW HT_.out HW_.out (by kernel_rfl)) (fun _ _ _ h => h) (Or.inl ⟨by rfl, ?_⟩) hHeld ?_ ?_
                     rotate_left
                     ·rintro w' ⟨s0, s1, s2, s3, s4, s5, s6, s7, s8, s9⟩
                      go_simp
                      with_reducible rfl
                     rotate_left
                     ·simp only [Act.put, List.setIfInBounds_toArray, List.set_cons_zero, List.set_cons_succ, i64_w, i32_w]
                      rfl
                     refine pure_ (i := 12) (N := some 121) (v := ?_) (a' := ?_) #[true, true, true, true, true, true, true, true, true, true, true, true, true] rfl rfl (any_of HT_.out (by kernel_rfl)) (fun _ _ _ h => h) (Or.inl ⟨by rfl, ?_⟩) ?_ ?_
                     rotate_left
                     ·intro w'
                      go_simp
                      with_reducible rfl
                     rotate_left
                     ·simp only [Act.put, List.setIfInBounds_toArray, List.set_cons_zero, List.set_cons_succ, i64_w, i32_w]
                      rfl
                     refine done_ (done_of HT_.out (by kernel_rfl)) ?_
                     try go_wp2
                     go_ret
                     exact ⟨by first | rfl | (simp [errW_none, errW_some] <;> rfl) | (simp [*, errW_none, errW_some] <;> rfl), bel_⟩
                    ·rw [if_neg c49] at H
                     have c49b0 : (((rd_T108 l0_1 x6_5).f0).toList == ((rd_T108 l0_1 x5_3).f0).toList) = false := beq_eq_false_iff_ne.mpr c49
                     have c49b1 : (((rd_T108 l0_1 x6_5).f0).toList != ((rd_T108 l0_1 x5_3).f0).toList) = true := bne_iff_ne.mpr c49
                     have H' := Aside0.mk H
                     clear H
                     try go_wp2
                     have n0_ := Aside0.mk (blk_drew BK1041.out)
                     have n1_ := Aside0.mk (below_drew1 HB.out)
                     clear BK1041
                     clear HB
                     have BK1041 := n0_
                     have HB := n1_
                     clear n0_ n1_
                     have p1054 : 0 ≤ (x6_5 : Int) := dq_
                     have q1054 : x6_5 < (l0_1.length : Int) := dq_
                     obtain ⟨ad1054, A1054_3, c1054_3, e1054, hx1054_0, hx1054_1, hx1054_2, hx1054_3, hl1054_3, hi1054_3⟩ := at_T108 HR0_1.out x6_5 p1054 q1054
                     have hw1054_3 := hx1054_3
                     have hw1054_2 := hx1054_2
                     have hw1054_1 := hx1054_1
                     have hw1054_0 := hx1054_0
                     cases e1054
                     replace hx1054_0 := pw_cell_below HB.out hx1054_0
                     replace hx1054_1 := pw_cell_below HB.out hx1054_1
                     replace hx1054_2 := pw_cell_below HB.out hx1054_2
                     replace hx1054_3 := pw_cell_below HB.out hx1054_3
                     have HR1054_3 := Aside0.mk hi1054_3
                     have HC1054_3 := Aside0.mk hl1054_3
                     clear hi1054_3 hl1054_3
                     replace p1054 := eq_true p1054
                     replace q1054 := eq_true q1054
                     have p1055 : 0 ≤ (x5_3 : Int) := dq_
                     have q1055 : x5_3 < (l0_1.length : Int) := dq_
                     obtain ⟨ad1055, A1055_3, c1055_3, e1055, hx1055_0, hx1055_1, hx1055_2, hx1055_3, hl1055_3, hi1055_3⟩ := at_T108 HR0_1.out x5_3 p1055 q1055
                     have hw1055_3 := hx1055_3
                     have hw1055_2 := hx1055_2
                     have hw1055_1 := hx1055_1
                     have hw1055_0 := hx1055_0
                     obtain rfl : ad1054 = ad1055 := (by injection e1055)
                     replace hx1055_0 := pw_cell_below HB.out hx1055_0
                     replace hx1055_1 := pw_cell_below HB.out hx1055_1
                     replace hx1055_2 := pw_cell_below HB.out hx1055_2
                     replace hx1055_3 := pw_cell_below HB.out hx1055_3
                     have HR1055_3 := Aside0.mk hi1055_3
                     have HC1055_3 := Aside0.mk hl1055_3
                     clear hi1055_3 hl1055_3
                     replace p1055 := eq_true p1055
                     replace q1055 := eq_true q1055
                     refine start_ (n := 13) (S := fun w' => w'.cell? ⟨gb1041, 0, none⟩ = some (.slice A0_0 l0_0.length c0_0) ∧ w'.cell? ⟨gb1041, 1, none⟩ = some (.slice (some ad1054) l0_1.length c0_1) ∧ w'.cell? (ad1054.add ((x6_5).toNat * 4)) = some (.string ((rd_T108 l0_1 x6_5).f0)) ∧ w'.cell? ⟨(ad1054.add ((x6_5).toNat * 4)).block, (ad1054.add ((x6_5).toNat * 4)).off + 1, none⟩ = some (.bool ((rd_T108 l0_1 x6_5).f1.f0)) ∧ w'.cell? ⟨(ad1054.add ((x6_5).toNat * 4)).block, (ad1054.add ((x6_5).toNat * 4)).off + 2, none⟩ = some (.string ((rd_T108 l0_1 x6_5).f1.f1)) ∧ w'.cell? ⟨(ad1054.add ((x6_5).toNat * 4)).block, (ad1054.add ((x6_5).toNat * 4)).off + 3, none⟩ = some (.slice A1054_3 ((rd_T108 l0_1 x6_5).f1.f2).length c1054_3) ∧ w'.cell? (ad1054.add ((x5_3).toNat * 4)) = some (.string ((rd_T108 l0_1 x5_3).f0)) ∧ w'.cell? ⟨(ad1054.add ((x5_3).toNat * 4)).block, (ad1054.add ((x5_3).toNat * 4)).off + 1, none⟩ = some (.bool ((rd_T108 l0_1 x5_3).f1.f0)) ∧ w'.cell? ⟨(ad1054.add ((x5_3).toNat * 4)).block, (ad1054.add ((x5_3).toNat * 4)).off + 2, none⟩ = some (.string ((rd_T108 l0_1 x5_3).f1.f1)) ∧ w'.cell? ⟨(ad1054.add ((x5_3).toNat * 4)).block, (ad1054.add ((x5_3).toNat * 4)).off + 3, none⟩ = some (.slice A1055_3 ((rd_T108 l0_1 x5_3).f1.f2).length c1055_3)) (ds := []) #[false, false, false, false, false, false, false, false, false, false, false, false, false] (by kernel_rfl) rfl rfl ⟨(blk_cell BK1041.out 0).trans rfl, (blk_cell BK1041.out 1).trans rfl, (pw_cell_below HB.out hw1054_0), (pw_cell_below HB.out hw1054_1), (pw_cell_below HB.out hw1054_2), (pw_cell_below HB.out hw1054_3), (pw_cell_below HB.out hw1055_0), (pw_cell_below HB.out hw1055_1), (pw_cell_below HB.out hw1055_2), (pw_cell_below HB.out hw1055_3)⟩ (fun hHeld => ?_); refine with_tabW sequentref04_Check.tab21 sequentref04_Check.bits21 (fun HT_ HW_ => ?_)
                     generalize wr.drew = w51 at BK1041 HB HR1054_3 HR1055_3 hx1054_0 hx1054_1 hx1054_2 hx1054_3 hx1055_0 hx1055_1 hx1055_2 hx1055_3 hHeld ⊢
                     refine pure_ (i := 0) (N := some 109) (v := ?_) (a' := ?_) #[true, false, false, false, false, false, false, false, false, false, false, false, false] rfl rfl (any_of HT_.out (by kernel_rfl)) (fun _ _ _ h => h) (Or.inl ⟨by rfl, ?_⟩) ?_ ?_
                     rotate_left
                     ·intro w'
                      go_simp
                      with_reducible rfl
                     rotate_left
                     ·simp only [Act.put, List.setIfInBounds_toArray, List.set_cons_zero, List.set_cons_succ, i64_w, i32_w]
                      rfl
                     refine pure_ (i := 2) (N := some 111) (v := ?_) (a' := ?_) #[true, false, true, false, false, false, false, false, false, false, false, false, false] rfl rfl (any_of HT_.out (by kernel_rfl)) (fun _ _ _ h => h) (Or.inl ⟨by rfl, ?_⟩) ?_ ?_
                     rotate_left
                     ·intro w'
                      go_simp
                      with_reducible rfl
                     rotate_left
                     ·simp only [Act.put, List.setIfInBounds_toArray, List.set_cons_zero, List.set_cons_succ, i64_w, i32_w]
                      rfl
                     refine pure_ (i := 6) (N := some 115) (v := ?_) (a' := ?_) #[true, false, true, false, false, false, true, false, false, false, false, false, false] rfl rfl (any_of HT_.out (by kernel_rfl)) (fun _ _ _ h => h) (Or.inl ⟨by rfl, ?_⟩) ?_ ?_
                     rotate_left
                     ·intro w'
                      go_simp
                      with_reducible rfl
                     rotate_left
                     ·simp only [Act.put, List.setIfInBounds_toArray, List.set_cons_zero, List.set_cons_succ, i64_w, i32_w]
                      rfl
                     refine pure_ (i := 8) (N := some 117) (v := ?_) (a' := ?_) #[true, false, true, false, false, false, true, false, true, false, false, false, false] rfl rfl (any_of HT_.out (by kernel_rfl)) (fun _ _ _ h => h) (Or.inl ⟨by rfl, ?_⟩) ?_ ?_
                     rotate_left
                     ·intro w'
                      go_simp
                      with_reducible rfl
                     rotate_left
                     ·simp only [Act.put, List.setIfInBounds_toArray, List.set_cons_zero, List.set_cons_succ, i64_w, i32_w]
                      rfl
                     refine take_ (i := 1) (N := some 110) (v := ?_) (a' := ?_) #[true, true, true, false, false, false, true, false, true, false, false, false, false] rfl rfl (take_ofW HT_.out HW_.out (by kernel_rfl)) (fun _ _ _ h => h) (Or.inl ⟨by rfl, ?_⟩) hHeld ?_ ?_
                     rotate_left
                     ·rintro w' ⟨s0, s1, s2, s3, s4, s5, s6, s7, s8, s9⟩
                      go_simp
                      with_reducible rfl
                     rotate_left
                     ·simp only [Act.put, List.setIfInBounds_toArray, List.set_cons_zero, List.set_cons_succ, i64_w, i32_w]
                      rfl
                     refine pure_ (i := 3) (N := some 112) (v := ?_) (a' := ?_) #[true, true, true, true, false, false, true, false, true, false, false, false, false] rfl rfl (any_of HT_.out (by kernel_rfl)) (fun _ _ _ h => h) (Or.inl ⟨by rfl, ?_⟩) ?_ ?_
                     rotate_left
                     ·intro w'
                      go_simp
                      with_reducible rfl
                     rotate_left
                     ·simp only [Act.put, List.setIfInBounds_toArray, List.set_cons_zero, List.set_cons_succ, i64_w, i32_w]
                      rfl
                     refine pure_ (i := 4) (N := some 113) (v := ?_) (a' := ?_) #[true, true, true, true, true, false, true, false, true, false, false, false, false] rfl rfl (any_of HT_.out (by kernel_rfl)) (fun _ _ _ h => h) (Or.inl ⟨by rfl, ?_⟩) ?_ ?_
                     rotate_left
                     ·intro w'
                      go_simp
                      with_reducible rfl
                     rotate_left
                     ·simp only [Act.put, List.setIfInBounds_toArray, List.set_cons_zero, List.set_cons_succ, i64_w, i32_w]
                      rfl
                     refine take_ (i := 5) (N := some 114) (v := ?_) (a' := ?_) #[true, true, true, true, true, true, true, false, true, false, false, false, false] rfl rfl (take_ofW HT_.out HW_.out (by kernel_rfl)) (fun _ _ _ h => h) (Or.inl ⟨by rfl, ?_⟩) hHeld ?_ ?_
                     rotate_left
                     ·rintro w' ⟨s0, s1, s2, s3, s4, s5, s6, s7, s8, s9⟩
                      go_simp
                      with_reducible rfl
                     rotate_left
                     ·simp only [Act.put, List.setIfInBounds_toArray, List.set_cons_zero, List.set_cons_succ, i64_w, i32_w]
                      rfl
                     refine take_ (i := 7) (N := some 116) (v := ?_) (a' := ?_) #[true, true, true, true, true, true, true, true, true, false, false, false, false] rfl rfl (take_ofW HT_.out HW_.out (by kernel_rfl)) (fun _ _ _ h => h) (Or.inl ⟨by rfl, ?_⟩) hHeld ?_ ?_
                     rotate_left
                     ·rintro w' ⟨s0, s1, s2, s3, s4, s5, s6, s7, s8, s9⟩
                      go_simp
                      with_reducible rfl
                     rotate_left
                     ·simp only [Act.put, List.setIfInBounds_toArray, List.set_cons_zero, List.set_cons_succ, i64_w, i32_w]
                      rfl
                     refine pure_ (i := 9) (N := some 118) (v := ?_) (a' := ?_) #[true, true, true, true, true, true, true, true, true, true, false, false, false] rfl rfl (any_of HT_.out (by kernel_rfl)) (fun _ _ _ h => h) (Or.inl ⟨by rfl, ?_⟩) ?_ ?_
                     rotate_left
                     ·intro w'
                      go_simp
                      with_reducible rfl
                     rotate_left
                     ·simp only [Act.put, List.setIfInBounds_toArray, List.set_cons_zero, List.set_cons_succ, i64_w, i32_w]
                      rfl
                     refine pure_ (i := 10) (N := some 119) (v := ?_) (a' := ?_) #[true, true, true, true, true, true, true, true, true, true, true, false, false] rfl rfl (any_of HT_.out (by kernel_rfl)) (fun _ _ _ h => h) (Or.inl ⟨by rfl, ?_⟩) ?_ ?_
                     rotate_left
                     ·intro w'
                      go_simp
                      with_reducible rfl
                     rotate_left
                     ·simp only [Act.put, List.setIfInBounds_toArray, List.set_cons_zero, List.set_cons_succ, i64_w, i32_w]
                      rfl
                     refine take_ (i := 11) (N := some 120) (v := ?_) (a' := ?_) #[true, true, true, true, true, true, true, true, true, true, true, true, false] rfl rfl (take_ofW HT_.out HW_.out (by kernel_rfl)) (fun _ _ _ h => h) (Or.inl ⟨by rfl, ?_⟩) hHeld ?_ ?_
                     rotate_left
                     ·rintro w' ⟨s0, s1, s2, s3, s4, s5, s6, s7, s8, s9⟩
                      go_simp
                      with_reducible rfl
                     rotate_left
                     ·simp only [Act.put, List.setIfInBounds_toArray, List.set_cons_zero, List.set_cons_succ, i64_w, i32_w]
                      rfl
                     refine pure_ (i := 12) (N := some 121) (v := ?_) (a' := ?_) #[true, true, true, true, true, true, true, true, true, true, true, true, true] rfl rfl (any_of HT_.out (by kernel_rfl)) (fun _ _ _ h => h) (Or.inl ⟨by rfl, ?_⟩) ?_ ?_
                     rotate_left
                     ·intro w'
                      go_simp
                      with_reducible rfl
                     rotate_left
                     ·simp only [Act.put, List.setIfInBounds_toArray, List.set_cons_zero, List.set_cons_succ, i64_w, i32_w]
                      rfl
                     refine done_ (done_of HT_.out (by kernel_rfl)) ?_
                     try go_wp2
                     go_roundg k5
                     case measure => have := HJ1.out; have := HK2.out; have := HK3.out; have := HJ28.out; have := HK5.out; omega
                     case rel => exact ⟨(wrap64 (x6_5 + 1)), (by first | rfl | (simp; done) | (simp [*]; done)), H', ⟨by have := HJ1.out; have := HK2.out; have := HK3.out; have := HJ28.out; have := HK5.out; omega⟩, ⟨bk_ BK1041⟩, ⟨bel_⟩⟩
                   ·rw [if_neg c48] at H
                    exact absurd H (by simp)
                  ·rw [if_neg c47] at H
                   exact absurd H (by simp)
                 ·rw [if_neg c46] at H
                  exact absurd H (by simp)
                ·rw [if_neg c45] at H
                 exact absurd H (by simp)
               ·rw [if_neg c44] at H
                have c44b0 : decide (x6_5 < x5_3) = false := decide_eq_false c44
                clear c44
                have H' := Aside0.mk H
                clear H
                go_wp2
                go_roundg k5
                case measure => have := HJ1.out; have := HK2.out; have := HK3.out; have := HJ28.out; have := HK5.out; omega
                case rel => exact ⟨(wrap64 (x5_3 + 1)), (by first | rfl | (simp; done) | (simp [*]; done)), H', ⟨by have := HJ1.out; have := HK2.out; have := HK3.out; have := HJ28.out; have := HK5.out; omega⟩, ⟨bk_ BK1041⟩, ⟨bel_⟩⟩
         ·rw [if_neg c28] at H
          have c28b0 : decide (x5_3 < (l0_1.length : Int)) = false := decide_eq_false c28
          clear c28
          obtain rfl := Option.some.inj H
          have hcz52_0 : wr.cell? ⟨gb1041, 0, none⟩ = some (.slice A0_0 l0_0.length c0_0) := (blk_cell BK1041.out 0).trans rfl
          have hcz52_1 : wr.cell? ⟨gb1041, 1, none⟩ = some (.slice A0_1 l0_1.length c0_1) := (blk_cell BK1041.out 1).trans rfl
          have hfz52_0 := blk_frozen BK1041.out 0
          have hfz52_1 := blk_frozen BK1041.out 1
          go_wp2
          go_ret
          exact ⟨by first | rfl | (simp [errW_none, errW_some] <;> rfl) | (simp [*, errW_none, errW_some] <;> rfl), bel_⟩

end Go.Proofs.Ytecplbgdalchdaa.Q
--PATCHED
-- written by a program of this session (wip/tools/myprint.py) out of the translation
namespace Go.Proofs.Ytecplbgdalchdaa.Q
open Go.RowKit Go.Proofs.YtecplbgdalchdaaW.PrintWords Go.Proofs.YtecplbgdalchdaaW.PrintLast Go.Proofs.YtecplbgdalchdaaW.PrintMore
attribute [local go_sem] max2_int min2_int max_two min_two max_three min_three max_four min_four   -- for this text's walks alone
set_option linter.unusedVariables false
set_option linter.unusedSimpArgs false

/-! ### sequentref01_Fun: function 172 -/
def sequentref01_Fun.f (k : Nat) (a0_0 : Bool) (a0_1 : ByteArray) (l0_2 : List (S24)) (a1_0 : Bool) (a1_1 : ByteArray) (l1_2 : List (S24)) : Option (Bool × ByteArray × (List (S24))) := (sequentref01_Twin.f k a0_0 a0_1 l0_2).bind fun bt412 => ((sequentref01_Twin.f k a1_0 a1_1 l1_2).bind fun bt417 => (some (false, (⟨#[102, 117, 110]⟩ : ByteArray), (([(⟨bt412.1, bt412.2.1, bt412.2.2⟩ : S24), (⟨bt417.1, bt417.2.1, bt417.2.2⟩ : S24)] : List (S24))))))
set_option maxHeartbeats 8000000 in
set_option maxRecDepth 100000 in
theorem sequentref01_Fun.calls (k : Nat) (a0_0 : Bool) (a0_1 : ByteArray) (A0_2 : Option Addr) (c0_2 : Nat) (l0_2 : List (S24)) (a1_0 : Bool) (a1_1 : ByteArray) (A1_2 : Option Addr) (c1_2 : Nat) (l1_2 : List (S24)) (r1 : Bool) (r2 : ByteArray) (r3 : List (S24)) (w : World) (hr0_2 : Kd.C k24 w A0_2 l0_2.length l0_2) (hc0_2 : l0_2.length ≤ c0_2) (hr1_2 : Kd.C k24 w A1_2 l1_2.length l1_2) (hc1_2 : l1_2.length ≤ c1_2) (h : sequentref01_Fun.f k a0_0 a0_1 l0_2 a1_0 a1_1 l1_2 = some (r1, r2, r3)) :
 Calls Try.prog 172 #[.agg #[.bool a0_0, .string a0_1, .slice A0_2 l0_2.length c0_2], .agg #[.bool a1_0, .string a1_1, .slice A1_2 l1_2.length c1_2]] w fun e w' => ∃ v2_ : Value, e = .returned (.agg #[.bool r1, .string r2, v2_]) ∧ Kd.N k24 24 w' w.heap.size (fun k_ => (w.heap.size ≤ k_)) v2_ r3 ∧ Below w.heap.size w w' := by
 have hu24 := Try.underlying24
 have HR0_2 := Aside0.mk hr0_2
 have HC0_2 := Aside0.mk hc0_2
 clear hr0_2 hc0_2
 have HR1_2 := Aside0.mk hr1_2
 have HC1_2 := Aside0.mk hc1_2
 clear hr1_2 hc1_2
 have HB := Aside0.mk (Below.refl w.heap.size w)
 have H : ((sequentref01_Twin.f k a0_0 a0_1 l0_2).bind fun bt412 => ((sequentref01_Twin.f k a1_0 a1_1 l1_2).bind fun bt417 => (some (false, (⟨#[102, 117, 110]⟩ : ByteArray), (([(⟨bt412.1, bt412.2.1, bt412.2.2⟩ : S24), (⟨bt417.1, bt417.2.1, bt417.2.2⟩ : S24)] : List (S24))))))) = some (r1, r2, r3) := h
 clear h
 replace H := Option.bind_eq_some_iff.mp H
 obtain ⟨⟨t412, t413, t414⟩, A30, H⟩ := H
 replace H : ((sequentref01_Twin.f k a1_0 a1_1 l1_2).bind fun bt417 => (some (false, (⟨#[102, 117, 110]⟩ : ByteArray), (([(⟨t412, t413, t414⟩ : S24), (⟨bt417.1, bt417.2.1, bt417.2.2⟩ : S24)] : List (S24)))))) = some (r1, r2, r3) := H
 have A3 := Aside0.mk A30
 clear A30
 replace H := Option.bind_eq_some_iff.mp H
 obtain ⟨⟨t417, t418, t419⟩, A40, H⟩ := H
 replace H : (some (false, (⟨#[102, 117, 110]⟩ : ByteArray), (([(⟨t412, t413, t414⟩ : S24), (⟨t417, t418, t419⟩ : S24)] : List (S24))))) = some (r1, r2, r3) := H
 have A4 := Aside0.mk A40
 clear A40
 obtain ⟨y422, hy422⟩ : ∃ y_ : List (S24), y_ = (([(⟨t412, t413, t414⟩ : S24), (⟨t417, t418, t419⟩ : S24)] : List (S24))) := ⟨_, rfl⟩
 replace H : (some (false, (⟨#[102, 117, 110]⟩ : ByteArray), y422)) = some (r1, r2, r3) := by first | (rw [hy422]; with_reducible exact H) | (have H2_ := (Option.bind_some _ _).symm.trans H; rw [hy422]; with_reducible exact H2_) | (have H2_ := (Option.bind_some _ _).symm.trans H; with_reducible exact H2_) | with_reducible exact H | (rw [hy422]; exact H) | exact H
 have Ny422 := Aside0.mk hy422
 clear hy422
 simp only [Option.some.injEq, Prod.mk.injEq] at H
 obtain ⟨rfl, rfl, rfl⟩ := H
 go_enter Try.func172, Try.ntmps172
 try go_wp2_with (first | ((with_reducible refine gate_dst (N := 2) rfl ?_); refine box_event ?hg (N := 2) ?hd (cs := #[.bool a0_0, .string a0_1, .slice A0_2 l0_2.length c0_2]) (t := 24) ?hr ?_; (case hd => rfl); (case hg => rfl); (case hr => first | (go_simp; done) | (go_simp; rfl)); intro gb409 hg w5 hbox hb; have n0_ := Aside0.mk (below_step bel_ hb); have n1_ := Aside0.mk (hbox); have n2_ := Aside0.mk ((by rw [hg]; exact (below_size bel_) : w.heap.size ≤ gb409)); have n3_ := Aside0.mk ((by rw [hg]; exact (below_size bel_) : w.heap.size ≤ gb409)); clear HB; have HB := n0_; have BK409 := n1_; have GW409 := n2_; have GE409 := n3_; clear n0_ n1_ n2_ n3_; clear hb hbox hg) | ((with_reducible refine gate_dst (N := 3) rfl ?_); refine box_event ?hg (N := 3) ?hd (cs := #[.bool a1_0, .string a1_1, .slice A1_2 l1_2.length c1_2]) (t := 24) ?hr ?_; (case hd => rfl); (case hg => rfl); (case hr => first | (go_simp; done) | (go_simp; rfl)); intro gb410 hg w6 hbox hb; have n0_ := Aside0.mk (blk_below (g := gb409) (o := .cells #[.bool a0_0, .string a0_1, .slice A0_2 l0_2.length c0_2] 24 (0, 0)) (bk_ BK409) hb); have n1_ := Aside0.mk (below_step bel_ hb); have n2_ := Aside0.mk (hbox); have n3_ := Aside0.mk ((by rw [hg]; exact (below_size bel_) : w.heap.size ≤ gb410)); have n4_ := Aside0.mk ((by rw [hg]; exact (below_size bel_) : w.heap.size ≤ gb410)); have n5_ := Aside0.mk ((by rw [hg]; exact Nat.ne_of_lt (blk_lt (g := gb409) (o := .cells #[.bool a0_0, .string a0_1, .slice A0_2 l0_2.length c0_2] 24 (0, 0)) (bk_ BK409)) : gb409 ≠ gb410)); have n6_ := Aside0.mk ((by rw [hg]; exact Nat.ne_of_gt (blk_lt (g := gb409) (o := .cells #[.bool a0_0, .string a0_1, .slice A0_2 l0_2.length c0_2] 24 (0, 0)) (bk_ BK409)) : gb410 ≠ gb409)); clear BK409; clear HB; have BK409 := n0_; have HB := n1_; have BK410 := n2_; have GW410 := n3_; have GE410 := n4_; have NB409_410 := n5_; have NB410_409 := n6_; clear n0_ n1_ n2_ n3_ n4_ n5_ n6_; clear hb hbox hg) | ((with_reducible refine gate_dst (N := 4) rfl ?_); refine box_event ?hg (N := 4) ?hd (cs := #[.bool false, .string (⟨#[]⟩ : ByteArray), .slice none 0 0]) (t := 24) ?hr ?_; (case hd => rfl); (case hg => rfl); (case hr => first | (go_simp; done) | (go_simp; rfl)); intro gb411 hg w7 hbox hb; have n0_ := Aside0.mk (blk_below (g := gb409) (o := .cells #[.bool a0_0, .string a0_1, .slice A0_2 l0_2.length c0_2] 24 (0, 0)) (bk_ BK409) hb); have n1_ := Aside0.mk (blk_below (g := gb410) (o := .cells #[.bool a1_0, .string a1_1, .slice A1_2 l1_2.length c1_2] 24 (0, 0)) (bk_ BK410) hb); have n2_ := Aside0.mk (below_step bel_ hb); have n3_ := Aside0.mk (hbox); have n4_ := Aside0.mk ((by rw [hg]; exact (below_size bel_) : w.heap.size ≤ gb411)); have n5_ := Aside0.mk ((by rw [hg]; exact (below_size bel_) : w.heap.size ≤ gb411)); have n6_ := Aside0.mk ((by rw [hg]; exact Nat.ne_of_lt (blk_lt (g := gb409) (o := .cells #[.bool a0_0, .string a0_1, .slice A0_2 l0_2.length c0_2] 24 (0, 0)) (bk_ BK409)) : gb409 ≠ gb411)); have n7_ := Aside0.mk ((by rw [hg]; exact Nat.ne_of_gt (blk_lt (g := gb409) (o := .cells #[.bool a0_0, .string a0_1, .slice A0_2 l0_2.length c0_2] 24 (0, 0)) (bk_ BK409)) : gb411 ≠ gb409)); have n8_ := Aside0.mk ((by rw [hg]; exact Nat.ne_of_lt (blk_lt (g := gb410) (o := .cells #[.bool a1_0, .string a1_1, .slice A1_2 l1_2.length c1_2] 24 (0, 0)) (bk_ BK410)) : gb410 ≠ gb411)); have n9_ := Aside0.mk ((by rw [hg]; exact Nat.ne_of_gt (blk_lt (g := gb410) (o := .cells #[.bool a1_0, .string a1_1, .slice A1_2 l1_2.length c1_2] 24 (0, 0)) (bk_ BK410)) : gb411 ≠ gb410)); clear BK409; clear BK410; clear HB; have BK409 := n0_; have BK410 := n1_; have HB := n2_; have BK411 := n3_; have GW411 := n4_; have GE411 := n5_; have NB409_411 := n6_; have NB411_409 := n7_; have NB410_411 := n8_; have NB411_410 := n9_; clear n0_ n1_ n2_ n3_ n4_ n5_ n6_ n7_ n8_ n9_; clear hb hbox hg))
 have n0_ := Aside0.mk (blk_drew BK409.out)
 have n1_ := Aside0.mk (blk_drew BK410.out)
 have n2_ := Aside0.mk (blk_drew BK411.out)
 have n3_ := Aside0.mk (below_drew1 HB.out)
 clear BK409
 clear BK410
 clear BK411
 clear HB
 have BK409 := n0_
 have BK410 := n1_
 have BK411 := n2_
 have HB := n3_
 clear n0_ n1_ n2_ n3_
 refine start_ (n := 7) (S := fun w' => w'.cell? ⟨gb409, 0, none⟩ = some (.bool a0_0) ∧ w'.cell? ⟨gb409, 1, none⟩ = some (.string a0_1) ∧ w'.cell? ⟨gb409, 2, none⟩ = some (.slice A0_2 l0_2.length c0_2) ∧ w'.cell? ⟨gb410, 0, none⟩ = some (.bool a1_0) ∧ w'.cell? ⟨gb410, 1, none⟩ = some (.string a1_1) ∧ w'.cell? ⟨gb410, 2, none⟩ = some (.slice A1_2 l1_2.length c1_2)) (ds := []) #[false, false, false, false, false, false, false] (by kernel_rfl) rfl rfl ⟨(blk_cell BK409.out 0).trans rfl, (blk_cell BK409.out 1).trans rfl, (blk_cell BK409.out 2).trans rfl, (blk_cell BK410.out 0).trans rfl, (blk_cell BK410.out 1).trans rfl, (blk_cell BK410.out 2).trans rfl⟩ (fun hHeld => ?_)
 generalize w7.drew = w8 at BK409 BK410 BK411 HB hHeld ⊢
 refine take_ (i := 0) (N := some 5) (v := ?_) (a' := ?_) #[true, false, false, false, false, false, false] rfl rfl (by kernel_rfl) (fun _ _ _ h => h) (Or.inl ⟨by rfl, ?_⟩) hHeld ?_ ?_
 rotate_left
 ·rintro w' ⟨s0, s1, s2, s3, s4, s5⟩
  go_simp
  with_reducible rfl
 rotate_left
 ·simp only [Act.put, List.setIfInBounds_toArray, List.set_cons_zero, List.set_cons_succ, i64_w, i32_w]
  rfl
 refine take_ (i := 2) (N := some 7) (v := ?_) (a' := ?_) #[true, false, true, false, false, false, false] rfl rfl (by kernel_rfl) (fun _ _ _ h => h) (Or.inl ⟨by rfl, ?_⟩) hHeld ?_ ?_
 rotate_left
 ·rintro w' ⟨s0, s1, s2, s3, s4, s5⟩
  go_simp
  with_reducible rfl
 rotate_left
 ·simp only [Act.put, List.setIfInBounds_toArray, List.set_cons_zero, List.set_cons_succ, i64_w, i32_w]
  rfl
 refine one_ (i := 1) (N := some 6) #[true, true, true, false, false, false, false] rfl rfl (by kernel_rfl) (by decide) (fun K hK => ?_)
 refine goes_ Try.func97 (by kernel_rfl) rfl #[.agg #[.bool a0_0, .string a0_1, .slice A0_2 l0_2.length c0_2]] (by rfl) rfl rfl (by (try simp only [List.map_toArray, List.map_cons, List.map_nil]); first | done | rfl | (simp only [List.length_drop, List.length_take]; rfl)) ?_
 with_reducible refine (sequentref01_Twin.calls k a0_0 a0_1 _ _ l0_2 t412 t413 t414 _ ?side1 ?side2 A3.out).mono ?_
 (case side1 => repeat (first | exact (Kd.C_below HR0_2.out HB.out) | (with_reducible refine Kd.C_alloc ?_ _) | (with_reducible refine Kd.C_drewN ?_ _) | (with_reducible refine Kd.C_drew ?_)))
 (case side2 => exact HC0_2.out)
 rintro e w9 ⟨v415, rfl, ho0, hb⟩
 refine ⟨_, rfl, ?_⟩
 have n0_ := Aside0.mk (Kd.N_lower (Kd.N_mono (ok' := fun k_ => (w.heap.size ≤ k_) ∧ k_ ≠ gb409 ∧ k_ ≠ gb410 ∧ k_ ≠ gb411) (Kd.R_N (Kd.R_bound ho0)) (fun k_ hk_ => ⟨(Nat.le_trans (below_size bel_) hk_.2.1), (Kd.freshB (g := gb409) (o := .cells #[.bool a0_0, .string a0_1, .slice A0_2 l0_2.length c0_2] 24 (0, 0)) (bk_ BK409) k_ hk_.2.1), (Kd.freshB (g := gb410) (o := .cells #[.bool a1_0, .string a1_1, .slice A1_2 l1_2.length c1_2] 24 (0, 0)) (bk_ BK410) k_ hk_.2.1), (Kd.freshB (g := gb411) (o := .cells #[.bool false, .string (⟨#[]⟩ : ByteArray), .slice none 0 0] 24 (0, 0)) (bk_ BK411) k_ hk_.2.1)⟩)) (below_size bel_))
 have n1_ := Aside0.mk (blk_below (g := gb409) (o := .cells #[.bool a0_0, .string a0_1, .slice A0_2 l0_2.length c0_2] 24 (0, 0)) (bk_ BK409) hb)
 have n2_ := Aside0.mk (blk_below (g := gb410) (o := .cells #[.bool a1_0, .string a1_1, .slice A1_2 l1_2.length c1_2] 24 (0, 0)) (bk_ BK410) hb)
 have n3_ := Aside0.mk (blk_below (g := gb411) (o := .cells #[.bool false, .string (⟨#[]⟩ : ByteArray), .slice none 0 0] 24 (0, 0)) (bk_ BK411) hb)
 have n4_ := Aside0.mk (below_step bel_ hb)
 clear BK409
 clear BK410
 clear BK411
 clear HB
 have HO416 := n0_
 have BK409 := n1_
 have BK410 := n2_
 have BK411 := n3_
 have HB := n4_
 clear n0_ n1_ n2_ n3_ n4_
 (try clear hb)
 (try clear hb2)
 (try clear hk)
 (try clear hi)
 (try clear ho0)
 refine hK.out _ _ ⟨(blk_cell BK409.out 0).trans rfl, (blk_cell BK409.out 1).trans rfl, (blk_cell BK409.out 2).trans rfl, (blk_cell BK410.out 0).trans rfl, (blk_cell BK410.out 1).trans rfl, (blk_cell BK410.out 2).trans rfl⟩ (fun hHeld => ?_)
 clear hK K
 refine norm_ (a' := ?_) ?_ ?_
 rotate_left
 ·show Act.put _ (some 6) _ = _
  simp only [Act.put, List.setIfInBounds_toArray, List.set_cons_zero, List.set_cons_succ, i64_w, i32_w]
  rfl
 refine one_ (i := 3) (N := some 8) #[true, true, true, true, false, false, false] rfl rfl (by kernel_rfl) (by decide) (fun K hK => ?_)
 refine goes_ Try.func97 (by kernel_rfl) rfl #[.agg #[.bool a1_0, .string a1_1, .slice A1_2 l1_2.length c1_2]] (by rfl) rfl rfl (by (try simp only [List.map_toArray, List.map_cons, List.map_nil]); first | done | rfl | (simp only [List.length_drop, List.length_take]; rfl)) ?_
 with_reducible refine (sequentref01_Twin.calls k a1_0 a1_1 _ _ l1_2 t417 t418 t419 _ ?side1 ?side2 A4.out).mono ?_
 (case side1 => repeat (first | exact (Kd.C_below HR1_2.out HB.out) | (with_reducible refine Kd.C_alloc ?_ _) | (with_reducible refine Kd.C_drewN ?_ _) | (with_reducible refine Kd.C_drew ?_)))
 (case side2 => exact HC1_2.out)
 rintro e w10 ⟨v420, rfl, ho0, hb⟩
 refine ⟨_, rfl, ?_⟩
 have n0_ := Aside0.mk (Kd.N_elder' (by (with_reducible repeat (first | apply Kd.N_alloc | apply Kd.N_drewN | apply Kd.N_drew)); exact HO416.out) (by first | exact Kd.N_base ho0 | exact Kd.R_base ho0) hb)
 have n1_ := Aside0.mk (Kd.N_lower (Kd.N_mono (ok' := fun k_ => (w.heap.size ≤ k_) ∧ some k_ ≠ (v415 : Value).ownBlock ∧ k_ ≠ gb409 ∧ k_ ≠ gb410 ∧ k_ ≠ gb411) (Kd.R_N (Kd.R_bound ho0)) (fun k_ hk_ => ⟨(Nat.le_trans (below_size bel_) hk_.2.1), (Kd.fresh' (Kd.N_lt (by (with_reducible repeat (first | apply Kd.N_alloc | apply Kd.N_drewN | apply Kd.N_drew)); exact HO416.out)) k_ hk_.2.1), (Kd.freshB (g := gb409) (o := .cells #[.bool a0_0, .string a0_1, .slice A0_2 l0_2.length c0_2] 24 (0, 0)) (bk_ BK409) k_ hk_.2.1), (Kd.freshB (g := gb410) (o := .cells #[.bool a1_0, .string a1_1, .slice A1_2 l1_2.length c1_2] 24 (0, 0)) (bk_ BK410) k_ hk_.2.1), (Kd.freshB (g := gb411) (o := .cells #[.bool false, .string (⟨#[]⟩ : ByteArray), .slice none 0 0] 24 (0, 0)) (bk_ BK411) k_ hk_.2.1)⟩)) (below_size bel_))
 have n2_ := Aside0.mk (blk_below (g := gb409) (o := .cells #[.bool a0_0, .string a0_1, .slice A0_2 l0_2.length c0_2] 24 (0, 0)) (bk_ BK409) hb)
 have n3_ := Aside0.mk (blk_below (g := gb410) (o := .cells #[.bool a1_0, .string a1_1, .slice A1_2 l1_2.length c1_2] 24 (0, 0)) (bk_ BK410) hb)
 have n4_ := Aside0.mk (blk_below (g := gb411) (o := .cells #[.bool false, .string (⟨#[]⟩ : ByteArray), .slice none 0 0] 24 (0, 0)) (bk_ BK411) hb)
 have n5_ := Aside0.mk (below_step bel_ hb)
 clear HO416
 clear BK409
 clear BK410
 clear BK411
 clear HB
 have HO416 := n0_
 have HO421 := n1_
 have BK409 := n2_
 have BK410 := n3_
 have BK411 := n4_
 have HB := n5_
 clear n0_ n1_ n2_ n3_ n4_ n5_
 (try clear hb)
 (try clear hb2)
 (try clear hk)
 (try clear hi)
 (try clear ho0)
 obtain ⟨Ao11, co11, eo11⟩ := Kd.N_slice HO416.out
 (first | subst eo11 | (injection eo11 with f1_ f2_ f3_; have f4_ := f1_.symm; have f5_ := f3_.symm; clear f1_ f2_ f3_; subst f4_; subst f5_))
 obtain ⟨Ao12, co12, eo12⟩ := Kd.N_slice HO421.out
 (first | subst eo12 | (injection eo12 with f1_ f2_ f3_; have f4_ := f1_.symm; have f5_ := f3_.symm; clear f1_ f2_ f3_; subst f4_; subst f5_))
 refine hK.out _ _ ⟨(blk_cell BK409.out 0).trans rfl, (blk_cell BK409.out 1).trans rfl, (blk_cell BK409.out 2).trans rfl, (blk_cell BK410.out 0).trans rfl, (blk_cell BK410.out 1).trans rfl, (blk_cell BK410.out 2).trans rfl⟩ (fun hHeld => ?_)
 clear hK K
 refine norm_ (a' := ?_) ?_ ?_
 rotate_left
 ·show Act.put _ (some 8) _ = _
  simp only [Act.put, List.setIfInBounds_toArray, List.set_cons_zero, List.set_cons_succ, i64_w, i32_w]
  rfl
 refine one_ (i := 4) (N := some 9) #[true, true, true, true, true, false, false] rfl rfl (by kernel_rfl) (by decide) (fun K hK => ?_)
 refine Kd.N_lit_step k24 _ 24 ?hg (N' := 9) ?hd (xs := ([(⟨t412, t413, t414⟩ : S24), (⟨t417, t418, t419⟩ : S24)] : List (S24))) (inner := [.bool t412, .string t413, .slice Ao11 t414.length co11, .bool t417, .string t418, .slice Ao12 t419.length co12]) (ok := (fun k_ => (w.heap.size ≤ k_) ∧ k_ ≠ gb409 ∧ k_ ≠ gb410 ∧ k_ ≠ gb411)) (okp := (fun k_ => (w.heap.size ≤ k_) ∧ k_ ≠ gb409 ∧ k_ ≠ gb410 ∧ k_ ≠ gb411)) ?hr ?hp (fun _ hk => hk) ((show ∀ k_, w10.heap.size ≤ k_ → (fun k_ => (w.heap.size ≤ k_) ∧ k_ ≠ gb409 ∧ k_ ≠ gb410 ∧ k_ ≠ gb411) k_ from fun k_ hk => ⟨(Nat.le_trans (below_size bel_) hk), Kd.freshB (g := gb409) (o := .cells #[.bool a0_0, .string a0_1, .slice A0_2 l0_2.length c0_2] 24 (0, 0)) (bk_ BK409) k_ hk, Kd.freshB (g := gb410) (o := .cells #[.bool a1_0, .string a1_1, .slice A1_2 l1_2.length c1_2] 24 (0, 0)) (bk_ BK410) k_ hk, Kd.freshB (g := gb411) (o := .cells #[.bool false, .string (⟨#[]⟩ : ByteArray), .slice none 0 0] 24 (0, 0)) (bk_ BK411) k_ hk⟩) _ (Nat.le_refl _)) (Below.refl _ _) (Nat.le_refl _) (by simp) ?_; (case hd => rfl); (case hg => rfl); (case hr => first | (go_simp; done) | (go_simp; rfl)); (case hp => exact (Reps.c3 (show Kd.FK k24 _ _ (⟨t412, t413, t414⟩ : S24) [.bool t412, .string t413, .slice Ao11 t414.length co11] from (k24_mkF _ _ (⟨t412, t413, t414⟩ : S24) (Kd.N_reads' (Kd.N_mono (ok' := (fun k_ => (w.heap.size ≤ k_) ∧ k_ ≠ gb409 ∧ k_ ≠ gb410 ∧ k_ ≠ gb411)) (HO416.out) (fun k_ hk => ⟨hk.1.1, ⟨hk.1.2.1, ⟨hk.1.2.2.1, hk.1.2.2.2⟩⟩⟩))).2.1 (Kd.N_F (Kd.N_mono (ok' := (fun k_ => (w.heap.size ≤ k_) ∧ k_ ≠ gb409 ∧ k_ ≠ gb410 ∧ k_ ≠ gb411)) (HO416.out) (fun k_ hk => ⟨hk.1.1, ⟨hk.1.2.1, ⟨hk.1.2.2.1, hk.1.2.2.2⟩⟩⟩))))) (Reps.c3 (show Kd.FK k24 _ _ (⟨t417, t418, t419⟩ : S24) [.bool t417, .string t418, .slice Ao12 t419.length co12] from (k24_mkF _ _ (⟨t417, t418, t419⟩ : S24) (Kd.N_reads' (Kd.N_mono (ok' := (fun k_ => (w.heap.size ≤ k_) ∧ k_ ≠ gb409 ∧ k_ ≠ gb410 ∧ k_ ≠ gb411)) (HO421.out) (fun k_ hk => ⟨hk.1, ⟨hk.2.2.1, ⟨hk.2.2.2.1, hk.2.2.2.2⟩⟩⟩))).2.1 (Kd.N_F (Kd.N_mono (ok' := (fun k_ => (w.heap.size ≤ k_) ∧ k_ ≠ gb409 ∧ k_ ≠ gb410 ∧ k_ ≠ gb411)) (HO421.out) (fun k_ hk => ⟨hk.1, ⟨hk.2.2.1, ⟨hk.2.2.2.1, hk.2.2.2.2⟩⟩⟩))))) (Reps.none _ _))))
 intro v423 w13 ho14 hb hg_ hnew_
 clear hg_ hnew_
 (first | rw [← Ny422.out] at ho14 | (simp only [Int.reduceToNat] at ho14; rw [← Ny422.out] at ho14))
 have n0_ := Aside0.mk (Kd.N_lower ho14 (below_size bel_))
 have n1_ := Aside0.mk (blk_below (g := gb409) (o := .cells #[.bool a0_0, .string a0_1, .slice A0_2 l0_2.length c0_2] 24 (0, 0)) (bk_ BK409) hb)
 have n2_ := Aside0.mk (blk_below (g := gb410) (o := .cells #[.bool a1_0, .string a1_1, .slice A1_2 l1_2.length c1_2] 24 (0, 0)) (bk_ BK410) hb)
 have n3_ := Aside0.mk (blk_below (g := gb411) (o := .cells #[.bool false, .string (⟨#[]⟩ : ByteArray), .slice none 0 0] 24 (0, 0)) (bk_ BK411) hb)
 have n4_ := Aside0.mk (below_step bel_ hb)
 clear BK409
 clear BK410
 clear BK411
 clear HB
 clear HO416
 clear HO421
 have HO424 := n0_
 have BK409 := n1_
 have BK410 := n2_
 have BK411 := n3_
 have HB := n4_
 clear n0_ n1_ n2_ n3_ n4_
 clear hb ho14
 obtain ⟨Ao15, co15, eo15⟩ := Kd.N_slice HO424.out
 (first | subst eo15 | (injection eo15 with f1_ f2_ f3_; have f4_ := f1_.symm; have f5_ := f3_.symm; clear f1_ f2_ f3_; subst f4_; subst f5_))
 refine hK.out _ _ ⟨(blk_cell BK409.out 0).trans rfl, (blk_cell BK409.out 1).trans rfl, (blk_cell BK409.out 2).trans rfl, (blk_cell BK410.out 0).trans rfl, (blk_cell BK410.out 1).trans rfl, (blk_cell BK410.out 2).trans rfl⟩ (fun hHeld => ?_)
 clear hK K
 refine norm_ (a' := ?_) ?_ ?_
 rotate_left
 ·show Act.put _ (some 9) _ = _
  simp only [Act.put, List.setIfInBounds_toArray, List.set_cons_zero, List.set_cons_succ, i64_w, i32_w]
  rfl
 refine pure_ (i := 5) (N := some 10) (v := ?_) (a' := ?_) #[true, true, true, true, true, true, false] rfl rfl (by kernel_rfl) (fun _ _ _ h => h) (Or.inl ⟨by rfl, ?_⟩) ?_ ?_
 rotate_left
 ·intro w'
  go_simp
  with_reducible rfl
 rotate_left
 ·simp only [Act.put, List.setIfInBounds_toArray, List.set_cons_zero, List.set_cons_succ, i64_w, i32_w]
  rfl
 refine one_ (i := 6) (N := none) #[true, true, true, true, true, true, true] rfl rfl (by kernel_rfl) (by decide) (fun K hK => ?_)
 have hs16 : w13.cell? ⟨gb411, 0, none⟩ = some (.bool false) := (blk_cell BK411.out 0).trans rfl
 have hfs16 := blk_frozen BK411.out 0
 have hns16_0 := NB409_411.out
 have hns16_1 := NB410_411.out
 have hms16_0 := NB411_409.out
 have hms16_1 := NB411_410.out
 have hs17 : w13.cell? ⟨gb411, 1, none⟩ = some (.string (⟨#[]⟩ : ByteArray)) := (blk_cell BK411.out 1).trans rfl
 have hfs17 := blk_frozen BK411.out 1
 have hns17_0 := NB409_411.out
 have hns17_1 := NB410_411.out
 have hms17_0 := NB411_409.out
 have hms17_1 := NB411_410.out
 have hs18 : w13.cell? ⟨gb411, 2, none⟩ = some (.slice none 0 0) := (blk_cell BK411.out 2).trans rfl
 have hfs18 := blk_frozen BK411.out 2
 have hns18_0 := NB409_411.out
 have hns18_1 := NB410_411.out
 have hms18_0 := NB411_409.out
 have hms18_1 := NB411_410.out
 refine skip_ (w1 := ?_) (by rfl) rfl ?_ ?_
 rotate_left
 ·go_simp
  rfl
 refine hK.out _ _ ⟨((cell_far (p := ⟨gb411, _, none⟩) NB409_411.out _).trans (((cell_far (p := ⟨gb411, _, none⟩) NB409_411.out _).trans (((cell_far (p := ⟨gb411, _, none⟩) NB409_411.out _).trans (hHeld.1)))))), ((cell_far (p := ⟨gb411, _, none⟩) NB409_411.out _).trans (((cell_far (p := ⟨gb411, _, none⟩) NB409_411.out _).trans (((cell_far (p := ⟨gb411, _, none⟩) NB409_411.out _).trans (hHeld.2.1)))))), ((cell_far (p := ⟨gb411, _, none⟩) NB409_411.out _).trans (((cell_far (p := ⟨gb411, _, none⟩) NB409_411.out _).trans (((cell_far (p := ⟨gb411, _, none⟩) NB409_411.out _).trans (hHeld.2.2.1)))))), ((cell_far (p := ⟨gb411, _, none⟩) NB410_411.out _).trans (((cell_far (p := ⟨gb411, _, none⟩) NB410_411.out _).trans (((cell_far (p := ⟨gb411, _, none⟩) NB410_411.out _).trans (hHeld.2.2.2.1)))))), ((cell_far (p := ⟨gb411, _, none⟩) NB410_411.out _).trans (((cell_far (p := ⟨gb411, _, none⟩) NB410_411.out _).trans (((cell_far (p := ⟨gb411, _, none⟩) NB410_411.out _).trans (hHeld.2.2.2.2.1)))))), ((cell_far (p := ⟨gb411, _, none⟩) NB410_411.out _).trans (((cell_far (p := ⟨gb411, _, none⟩) NB410_411.out _).trans (((cell_far (p := ⟨gb411, _, none⟩) NB410_411.out _).trans (hHeld.2.2.2.2.2))))))⟩ (fun hHeld => ?_)
 clear hK K
 refine done_ (by kernel_rfl) ?_
 try go_wp2
 refine bodyPost_ret (results_cell_row rfl _ _ gb411 24 #[.bool false, .string (⟨#[102, 117, 110]⟩ : ByteArray), .slice Ao15 y422.length co15] (0, 0) _ rfl (by (with_reducible repeat (first | refine blk_drewN ?_ _ | refine blk_drew ?_ | refine blk_alloc ?_ _)); refine blk_put (cs := #[.bool false, .string (⟨#[102, 117, 110]⟩ : ByteArray), .slice none 0 0]) ?_ 2 _ rfl; (with_reducible repeat (first | refine blk_drewN ?_ _ | refine blk_drew ?_ | refine blk_alloc ?_ _)); refine blk_put (cs := #[.bool false, .string (⟨#[]⟩ : ByteArray), .slice none 0 0]) ?_ 1 _ rfl; (with_reducible repeat (first | refine blk_drewN ?_ _ | refine blk_drew ?_ | refine blk_alloc ?_ _)); refine blk_put (cs := #[.bool false, .string (⟨#[]⟩ : ByteArray), .slice none 0 0]) ?_ 0 _ rfl; (with_reducible repeat (first | refine blk_drewN ?_ _ | refine blk_drew ?_ | refine blk_alloc ?_ _)); exact BK411.out) Try.underlying24 rfl (by kernel_rfl)) rfl ?_
 exact ⟨_, by first | rfl | (simp [errW_none, errW_some] <;> rfl) | (simp [*, errW_none, errW_some] <;> rfl), by (with_reducible repeat (first | apply Kd.N_alloc | apply Kd.N_drewN | apply Kd.N_drew)); exact Kd.N_mono (Kd.N_far (p := ⟨gb411, 2, none⟩) (Kd.N_far (p := ⟨gb411, 1, none⟩) (Kd.N_far (p := ⟨gb411, 0, none⟩) (Kd.N_mono HO424.out (fun k_ hk => (⟨hk, hk.2.2.2⟩ : _ ∧ k_ ≠ gb411))) (fun _ hk => hk.2) (.bool false)) (fun _ hk => hk.2) (.string (⟨#[102, 117, 110]⟩ : ByteArray))) (fun _ hk => hk.2) (.slice Ao15 y422.length co15)) (fun _ hk => hk.1.1), bel_⟩

end Go.Proofs.Ytecplbgdalchdaa.Q
-- written by a program of this session (wip/tools/myprint.py) out of the translation
namespace Go.Proofs.Ytecplbgdalchdaa.Q
open Go.RowKit Go.Proofs.YtecplbgdalchdaaW.PrintWords Go.Proofs.YtecplbgdalchdaaW.PrintLast Go.Proofs.YtecplbgdalchdaaW.PrintMore
attribute [local go_sem] max2_int min2_int max_two min_two max_three min_three max_four min_four   -- for this text's walks alone
set_option linter.unusedVariables false
set_option linter.unusedSimpArgs false

/-! ### sequentref02_Equals: function 155 -/
def sequentref02_Equals.f (k : Nat) (a0_0 : Bool) (a0_1 : ByteArray) (l0_2 : List (S24)) : Option (Int × ByteArray × Bool × ByteArray × (List (S24)) × Int × (List (S27))) := (sequentref01_Bool.f).bind fun bt1114 => ((sequentref01_Fun.f k a0_0 a0_1 l0_2 bt1114.1 bt1114.2.1 bt1114.2.2).bind fun bt1119 => ((sequentref01_Fun.f k a0_0 a0_1 l0_2 bt1119.1 bt1119.2.1 bt1119.2.2).bind fun bt1124 => (some (2, (⟨#[61]⟩ : ByteArray), bt1124.1, bt1124.2.1, bt1124.2.2, 0, ([] : List (S27))))))
set_option maxHeartbeats 8000000 in
set_option maxRecDepth 100000 in
theorem sequentref02_Equals.calls (k : Nat) (a0_0 : Bool) (a0_1 : ByteArray) (A0_2 : Option Addr) (c0_2 : Nat) (l0_2 : List (S24)) (r1 : Int) (r2 : ByteArray) (r3 : Bool) (r4 : ByteArray) (r5 : List (S24)) (r6 : Int) (r7 : List (S27)) (w : World) (hr0_2 : Kd.C k24 w A0_2 l0_2.length l0_2) (hc0_2 : l0_2.length ≤ c0_2) (h : sequentref02_Equals.f k a0_0 a0_1 l0_2 = some (r1, r2, r3, r4, r5, r6, r7)) :
 Calls Try.prog 155 #[.agg #[.bool a0_0, .string a0_1, .slice A0_2 l0_2.length c0_2]] w fun e w' => ∃ v4_ v6_ : Value, e = .returned (.agg #[.int .u8 r1, .string r2, .bool r3, .string r4, v4_, .int .i64 r6, v6_]) ∧ Kd.N k24 24 w' w.heap.size (fun k_ => (w.heap.size ≤ k_) ∧ some k_ ≠ (v6_ : Value).ownBlock) v4_ r5 ∧ Kd.N k27 27 w' w.heap.size (fun k_ => (w.heap.size ≤ k_) ∧ some k_ ≠ (v4_ : Value).ownBlock) v6_ r7 ∧ Below w.heap.size w w' := by
 have hu24 := Try.underlying24
 have hu27 := Try.underlying27
 have HR0_2 := Aside0.mk hr0_2
 have HC0_2 := Aside0.mk hc0_2
 clear hr0_2 hc0_2
 have HB := Aside0.mk (Below.refl w.heap.size w)
 have H : ((sequentref01_Bool.f).bind fun bt1114 => ((sequentref01_Fun.f k a0_0 a0_1 l0_2 bt1114.1 bt1114.2.1 bt1114.2.2).bind fun bt1119 => ((sequentref01_Fun.f k a0_0 a0_1 l0_2 bt1119.1 bt1119.2.1 bt1119.2.2).bind fun bt1124 => (some (2, (⟨#[61]⟩ : ByteArray), bt1124.1, bt1124.2.1, bt1124.2.2, 0, ([] : List (S27))))))) = some (r1, r2, r3, r4, r5, r6, r7) := h
 clear h
 replace H := Option.bind_eq_some_iff.mp H
 obtain ⟨⟨t1114, t1115, t1116⟩, A20, H⟩ := H
 replace H : ((sequentref01_Fun.f k a0_0 a0_1 l0_2 t1114 t1115 t1116).bind fun bt1119 => ((sequentref01_Fun.f k a0_0 a0_1 l0_2 bt1119.1 bt1119.2.1 bt1119.2.2).bind fun bt1124 => (some (2, (⟨#[61]⟩ : ByteArray), bt1124.1, bt1124.2.1, bt1124.2.2, 0, ([] : List (S27)))))) = some (r1, r2, r3, r4, r5, r6, r7) := H
 have A2 := Aside0.mk A20
 clear A20
 replace H := Option.bind_eq_some_iff.mp H
 obtain ⟨⟨t1119, t1120, t1121⟩, A30, H⟩ := H
 replace H : ((sequentref01_Fun.f k a0_0 a0_1 l0_2 t1119 t1120 t1121).bind fun bt1124 => (some (2, (⟨#[61]⟩ : ByteArray), bt1124.1, bt1124.2.1, bt1124.2.2, 0, ([] : List (S27))))) = some (r1, r2, r3, r4, r5, r6, r7) := H
 have A3 := Aside0.mk A30
 clear A30
 replace H := Option.bind_eq_some_iff.mp H
 obtain ⟨⟨t1124, t1125, t1126⟩, A40, H⟩ := H
 replace H : (some (2, (⟨#[61]⟩ : ByteArray), t1124, t1125, t1126, 0, ([] : List (S27)))) = some (r1, r2, r3, r4, r5, r6, r7) := H
 have A4 := Aside0.mk A40
 clear A40
 simp only [Option.some.injEq, Prod.mk.injEq] at H
 obtain ⟨rfl, rfl, rfl, rfl, rfl, rfl, rfl⟩ := H
 go_enter Try.func155, Try.ntmps155
 try go_wp2_with (first | ((with_reducible refine gate_dst (N := 1) rfl ?_); refine box_event ?hg (N := 1) ?hd (cs := #[.bool a0_0, .string a0_1, .slice A0_2 l0_2.length c0_2]) (t := 24) ?hr ?_; (case hd => rfl); (case hg => rfl); (case hr => first | (go_simp; done) | (go_simp; rfl)); intro gb1112 hg w5 hbox hb; have n0_ := Aside0.mk (below_step bel_ hb); have n1_ := Aside0.mk (hbox); have n2_ := Aside0.mk ((by rw [hg]; exact (below_size bel_) : w.heap.size ≤ gb1112)); have n3_ := Aside0.mk ((by rw [hg]; exact (below_size bel_) : w.heap.size ≤ gb1112)); clear HB; have HB := n0_; have BK1112 := n1_; have GW1112 := n2_; have GE1112 := n3_; clear n0_ n1_ n2_ n3_; clear hb hbox hg) | ((with_reducible refine gate_dst (N := 2) rfl ?_); refine box_event ?hg (N := 2) ?hd (cs := #[.int .u8 0, .string (⟨#[]⟩ : ByteArray), .bool false, .string (⟨#[]⟩ : ByteArray), .slice none 0 0, .int .i64 0, .slice none 0 0]) (t := 27) ?hr ?_; (case hd => rfl); (case hg => rfl); (case hr => first | (go_simp; done) | (go_simp; rfl)); intro gb1113 hg w6 hbox hb; have n0_ := Aside0.mk (blk_below (g := gb1112) (o := .cells #[.bool a0_0, .string a0_1, .slice A0_2 l0_2.length c0_2] 24 (0, 0)) (bk_ BK1112) hb); have n1_ := Aside0.mk (below_step bel_ hb); have n2_ := Aside0.mk (hbox); have n3_ := Aside0.mk ((by rw [hg]; exact (below_size bel_) : w.heap.size ≤ gb1113)); have n4_ := Aside0.mk ((by rw [hg]; exact (below_size bel_) : w.heap.size ≤ gb1113)); have n5_ := Aside0.mk ((by rw [hg]; exact Nat.ne_of_lt (blk_lt (g := gb1112) (o := .cells #[.bool a0_0, .string a0_1, .slice A0_2 l0_2.length c0_2] 24 (0, 0)) (bk_ BK1112)) : gb1112 ≠ gb1113)); have n6_ := Aside0.mk ((by rw [hg]; exact Nat.ne_of_gt (blk_lt (g := gb1112) (o := .cells #[.bool a0_0, .string a0_1, .slice A0_2 l0_2.length c0_2] 24 (0, 0)) (bk_ BK1112)) : gb1113 ≠ gb1112)); clear BK1112; clear HB; have BK1112 := n0_; have HB := n1_; have BK1113 := n2_; have GW1113 := n3_; have GE1113 := n4_; have NB1112_1113 := n5_; have NB1113_1112 := n6_; clear n0_ n1_ n2_ n3_ n4_ n5_ n6_; clear hb hbox hg))
 have n0_ := Aside0.mk (blk_drew BK1112.out)
 have n1_ := Aside0.mk (blk_drew BK1113.out)
 have n2_ := Aside0.mk (below_drew1 HB.out)
 clear BK1112
 clear BK1113
 clear HB
 have BK1112 := n0_
 have BK1113 := n1_
 have HB := n2_
 clear n0_ n1_ n2_
 refine start_ (n := 7) (S := fun w' => w'.cell? ⟨gb1112, 0, none⟩ = some (.bool a0_0) ∧ w'.cell? ⟨gb1112, 1, none⟩ = some (.string a0_1) ∧ w'.cell? ⟨gb1112, 2, none⟩ = some (.slice A0_2 l0_2.length c0_2)) (ds := []) #[false, false, false, false, false, false, false] (by kernel_rfl) rfl rfl ⟨(blk_cell BK1112.out 0).trans rfl, (blk_cell BK1112.out 1).trans rfl, (blk_cell BK1112.out 2).trans rfl⟩ (fun hHeld => ?_)
 generalize w6.drew = w7 at BK1112 BK1113 HB hHeld ⊢
 refine take_ (i := 0) (N := some 3) (v := ?_) (a' := ?_) #[true, false, false, false, false, false, false] rfl rfl (by kernel_rfl) (fun _ _ _ h => h) (Or.inl ⟨by rfl, ?_⟩) hHeld ?_ ?_
 rotate_left
 ·rintro w' ⟨s0, s1, s2⟩
  go_simp
  with_reducible rfl
 rotate_left
 ·simp only [Act.put, List.setIfInBounds_toArray, List.set_cons_zero, List.set_cons_succ, i64_w, i32_w]
  rfl
 refine take_ (i := 1) (N := some 4) (v := ?_) (a' := ?_) #[true, true, false, false, false, false, false] rfl rfl (by kernel_rfl) (fun _ _ _ h => h) (Or.inl ⟨by rfl, ?_⟩) hHeld ?_ ?_
 rotate_left
 ·rintro w' ⟨s0, s1, s2⟩
  go_simp
  with_reducible rfl
 rotate_left
 ·simp only [Act.put, List.setIfInBounds_toArray, List.set_cons_zero, List.set_cons_succ, i64_w, i32_w]
  rfl
 refine one_ (i := 2) (N := some 5) #[true, true, true, false, false, false, false] rfl rfl (by kernel_rfl) (by decide) (fun K hK => ?_)
 refine goes_ Try.func203 (by kernel_rfl) rfl #[] (by rfl) rfl rfl (by (try simp only [List.map_toArray, List.map_cons, List.map_nil]); first | done | rfl | (simp only [List.length_drop, List.length_take]; rfl)) ?_
 with_reducible refine (sequentref01_Bool.calls  t1114 t1115 t1116 _ A2.out).mono ?_
 rintro e w8 ⟨v1117, rfl, ho0, hb⟩
 refine ⟨_, rfl, ?_⟩
 have n0_ := Aside0.mk (Kd.N_lower (Kd.N_mono (ok' := fun k_ => (w.heap.size ≤ k_) ∧ k_ ≠ gb1112 ∧ k_ ≠ gb1113) (Kd.R_N (Kd.R_bound ho0)) (fun k_ hk_ => ⟨(Nat.le_trans (below_size bel_) hk_.2.1), (Kd.freshB (g := gb1112) (o := .cells #[.bool a0_0, .string a0_1, .slice A0_2 l0_2.length c0_2] 24 (0, 0)) (bk_ BK1112) k_ hk_.2.1), (Kd.freshB (g := gb1113) (o := .cells #[.int .u8 0, .string (⟨#[]⟩ : ByteArray), .bool false, .string (⟨#[]⟩ : ByteArray), .slice none 0 0, .int .i64 0, .slice none 0 0] 27 (0, 0)) (bk_ BK1113) k_ hk_.2.1)⟩)) (below_size bel_))
 have n1_ := Aside0.mk (blk_below (g := gb1112) (o := .cells #[.bool a0_0, .string a0_1, .slice A0_2 l0_2.length c0_2] 24 (0, 0)) (bk_ BK1112) hb)
 have n2_ := Aside0.mk (blk_below (g := gb1113) (o := .cells #[.int .u8 0, .string (⟨#[]⟩ : ByteArray), .bool false, .string (⟨#[]⟩ : ByteArray), .slice none 0 0, .int .i64 0, .slice none 0 0] 27 (0, 0)) (bk_ BK1113) hb)
 have n3_ := Aside0.mk (below_step bel_ hb)
 clear BK1112
 clear BK1113
 clear HB
 have HO1118 := n0_
 have BK1112 := n1_
 have BK1113 := n2_
 have HB := n3_
 clear n0_ n1_ n2_ n3_
 (try clear hb)
 (try clear hb2)
 (try clear hk)
 (try clear hi)
 (try clear ho0)
 obtain ⟨Ao9, co9, eo9⟩ := Kd.N_slice HO1118.out
 (first | subst eo9 | (injection eo9 with f1_ f2_ f3_; have f4_ := f1_.symm; have f5_ := f3_.symm; clear f1_ f2_ f3_; subst f4_; subst f5_))
 refine hK.out _ _ ⟨(blk_cell BK1112.out 0).trans rfl, (blk_cell BK1112.out 1).trans rfl, (blk_cell BK1112.out 2).trans rfl⟩ (fun hHeld => ?_)
 clear hK K
 refine norm_ (a' := ?_) ?_ ?_
 rotate_left
 ·show Act.put _ (some 5) _ = _
  simp only [Act.put, List.setIfInBounds_toArray, List.set_cons_zero, List.set_cons_succ, i64_w, i32_w]
  rfl
 refine one_ (i := 3) (N := some 6) #[true, true, true, true, false, false, false] rfl rfl (by kernel_rfl) (by decide) (fun K hK => ?_)
 refine goes_ Try.func172 (by kernel_rfl) rfl #[.agg #[.bool a0_0, .string a0_1, .slice A0_2 l0_2.length c0_2], .agg #[.bool t1114, .string t1115, .slice Ao9 t1116.length co9]] (by rfl) rfl rfl (by (try simp only [List.map_toArray, List.map_cons, List.map_nil]); first | done | rfl | (simp only [List.length_drop, List.length_take]; rfl)) ?_
 with_reducible refine (sequentref01_Fun.calls k a0_0 a0_1 _ _ l0_2 t1114 t1115 _ _ t1116 t1119 t1120 t1121 _ ?side1 ?side2 ?side3 ?side4 A3.out).mono ?_
 (case side1 => repeat (first | exact (Kd.C_below HR0_2.out HB.out) | (with_reducible refine Kd.C_alloc ?_ _) | (with_reducible refine Kd.C_drewN ?_ _) | (with_reducible refine Kd.C_drew ?_)))
 (case side2 => exact HC0_2.out)
 (case side3 => repeat (first | exact (Kd.N_reads' HO1118.out).2.2 | (with_reducible refine Kd.C_alloc ?_ _) | (with_reducible refine Kd.C_drewN ?_ _) | (with_reducible refine Kd.C_drew ?_)))
 (case side4 => exact (Kd.N_reads' HO1118.out).2.1)
 rintro e w10 ⟨v1122, rfl, ho0, hb⟩
 refine ⟨_, rfl, ?_⟩
 have n0_ := Aside0.mk (Kd.N_elder' (by (with_reducible repeat (first | apply Kd.N_alloc | apply Kd.N_drewN | apply Kd.N_drew)); exact HO1118.out) (by first | exact Kd.N_base ho0 | exact Kd.R_base ho0) hb)
 have n1_ := Aside0.mk (Kd.N_lower (Kd.N_mono (ok' := fun k_ => (w.heap.size ≤ k_) ∧ some k_ ≠ (.slice Ao9 t1116.length co9 : Value).ownBlock ∧ k_ ≠ gb1112 ∧ k_ ≠ gb1113) ho0 (fun k_ hk_ => ⟨(Nat.le_trans (below_size bel_) hk_), (Kd.fresh' (Kd.N_lt (by (with_reducible repeat (first | apply Kd.N_alloc | apply Kd.N_drewN | apply Kd.N_drew)); exact HO1118.out)) k_ hk_), (Kd.freshB (g := gb1112) (o := .cells #[.bool a0_0, .string a0_1, .slice A0_2 l0_2.length c0_2] 24 (0, 0)) (bk_ BK1112) k_ hk_), (Kd.freshB (g := gb1113) (o := .cells #[.int .u8 0, .string (⟨#[]⟩ : ByteArray), .bool false, .string (⟨#[]⟩ : ByteArray), .slice none 0 0, .int .i64 0, .slice none 0 0] 27 (0, 0)) (bk_ BK1113) k_ hk_)⟩)) (below_size bel_))
 have n2_ := Aside0.mk (blk_below (g := gb1112) (o := .cells #[.bool a0_0, .string a0_1, .slice A0_2 l0_2.length c0_2] 24 (0, 0)) (bk_ BK1112) hb)
 have n3_ := Aside0.mk (blk_below (g := gb1113) (o := .cells #[.int .u8 0, .string (⟨#[]⟩ : ByteArray), .bool false, .string (⟨#[]⟩ : ByteArray), .slice none 0 0, .int .i64 0, .slice none 0 0] 27 (0, 0)) (bk_ BK1113) hb)
 have n4_ := Aside0.mk (below_step bel_ hb)
 clear HO1118
 clear BK1112
 clear BK1113
 clear HB
 have HO1118 := n0_
 have HO1123 := n1_
 have BK1112 := n2_
 have BK1113 := n3_
 have HB := n4_
 clear n0_ n1_ n2_ n3_ n4_
 (try clear hb)
 (try clear hb2)
 (try clear hk)
 (try clear hi)
 (try clear ho0)
 obtain ⟨Ao11, co11, eo11⟩ := Kd.N_slice HO1123.out
 (first | subst eo11 | (injection eo11 with f1_ f2_ f3_; have f4_ := f1_.symm; have f5_ := f3_.symm; clear f1_ f2_ f3_; subst f4_; subst f5_))
 refine hK.out _ _ ⟨(blk_cell BK1112.out 0).trans rfl, (blk_cell BK1112.out 1).trans rfl, (blk_cell BK1112.out 2).trans rfl⟩ (fun hHeld => ?_)
 clear hK K
 refine norm_ (a' := ?_) ?_ ?_
 rotate_left
 ·show Act.put _ (some 6) _ = _
  simp only [Act.put, List.setIfInBounds_toArray, List.set_cons_zero, List.set_cons_succ, i64_w, i32_w]
  rfl
 refine one_ (i := 4) (N := some 7) #[true, true, true, true, true, false, false] rfl rfl (by kernel_rfl) (by decide) (fun K hK => ?_)
 refine goes_ Try.func172 (by kernel_rfl) rfl #[.agg #[.bool a0_0, .string a0_1, .slice A0_2 l0_2.length c0_2], .agg #[.bool t1119, .string t1120, .slice Ao11 t1121.length co11]] (by rfl) rfl rfl (by (try simp only [List.map_toArray, List.map_cons, List.map_nil]); first | done | rfl | (simp only [List.length_drop, List.length_take]; rfl)) ?_
 with_reducible refine (sequentref01_Fun.calls k a0_0 a0_1 _ _ l0_2 t1119 t1120 _ _ t1121 t1124 t1125 t1126 _ ?side1 ?side2 ?side3 ?side4 A4.out).mono ?_
 (case side1 => repeat (first | exact (Kd.C_below HR0_2.out HB.out) | (with_reducible refine Kd.C_alloc ?_ _) | (with_reducible refine Kd.C_drewN ?_ _) | (with_reducible refine Kd.C_drew ?_)))
 (case side2 => exact HC0_2.out)
 (case side3 => repeat (first | exact (Kd.N_reads' HO1123.out).2.2 | (with_reducible refine Kd.C_alloc ?_ _) | (with_reducible refine Kd.C_drewN ?_ _) | (with_reducible refine Kd.C_drew ?_)))
 (case side4 => exact (Kd.N_reads' HO1123.out).2.1)
 rintro e w12 ⟨v1127, rfl, ho0, hb⟩
 refine ⟨_, rfl, ?_⟩
 have n0_ := Aside0.mk (Kd.N_elder' (by (with_reducible repeat (first | apply Kd.N_alloc | apply Kd.N_drewN | apply Kd.N_drew)); exact HO1118.out) (by first | exact Kd.N_base ho0 | exact Kd.R_base ho0) hb)
 have n1_ := Aside0.mk (Kd.N_elder' (by (with_reducible repeat (first | apply Kd.N_alloc | apply Kd.N_drewN | apply Kd.N_drew)); exact HO1123.out) (by first | exact Kd.N_base ho0 | exact Kd.R_base ho0) hb)
 have n2_ := Aside0.mk (Kd.N_lower (Kd.N_mono (ok' := fun k_ => (w.heap.size ≤ k_) ∧ some k_ ≠ (.slice Ao9 t1116.length co9 : Value).ownBlock ∧ some k_ ≠ (.slice Ao11 t1121.length co11 : Value).ownBlock ∧ k_ ≠ gb1112 ∧ k_ ≠ gb1113) ho0 (fun k_ hk_ => ⟨(Nat.le_trans (below_size bel_) hk_), (Kd.fresh' (Kd.N_lt (by (with_reducible repeat (first | apply Kd.N_alloc | apply Kd.N_drewN | apply Kd.N_drew)); exact HO1118.out)) k_ hk_), (Kd.fresh' (Kd.N_lt (by (with_reducible repeat (first | apply Kd.N_alloc | apply Kd.N_drewN | apply Kd.N_drew)); exact HO1123.out)) k_ hk_), (Kd.freshB (g := gb1112) (o := .cells #[.bool a0_0, .string a0_1, .slice A0_2 l0_2.length c0_2] 24 (0, 0)) (bk_ BK1112) k_ hk_), (Kd.freshB (g := gb1113) (o := .cells #[.int .u8 0, .string (⟨#[]⟩ : ByteArray), .bool false, .string (⟨#[]⟩ : ByteArray), .slice none 0 0, .int .i64 0, .slice none 0 0] 27 (0, 0)) (bk_ BK1113) k_ hk_)⟩)) (below_size bel_))
 have n3_ := Aside0.mk (blk_below (g := gb1112) (o := .cells #[.bool a0_0, .string a0_1, .slice A0_2 l0_2.length c0_2] 24 (0, 0)) (bk_ BK1112) hb)
 have n4_ := Aside0.mk (blk_below (g := gb1113) (o := .cells #[.int .u8 0, .string (⟨#[]⟩ : ByteArray), .bool false, .string (⟨#[]⟩ : ByteArray), .slice none 0 0, .int .i64 0, .slice none 0 0] 27 (0, 0)) (bk_ BK1113) hb)
 have n5_ := Aside0.mk (below_step bel_ hb)
 clear HO1118
 clear HO1123
 clear BK1112
 clear BK1113
 clear HB
 have HO1118 := n0_
 have HO1123 := n1_
 have HO1128 := n2_
 have BK1112 := n3_
 have BK1113 := n4_
 have HB := n5_
 clear n0_ n1_ n2_ n3_ n4_ n5_
 (try clear hb)
 (try clear hb2)
 (try clear hk)
 (try clear hi)
 (try clear ho0)
 obtain ⟨Ao13, co13, eo13⟩ := Kd.N_slice HO1128.out
 (first | subst eo13 | (injection eo13 with f1_ f2_ f3_; have f4_ := f1_.symm; have f5_ := f3_.symm; clear f1_ f2_ f3_; subst f4_; subst f5_))
 refine hK.out _ _ ⟨(blk_cell BK1112.out 0).trans rfl, (blk_cell BK1112.out 1).trans rfl, (blk_cell BK1112.out 2).trans rfl⟩ (fun hHeld => ?_)
 clear hK K
 refine norm_ (a' := ?_) ?_ ?_
 rotate_left
 ·show Act.put _ (some 7) _ = _
  simp only [Act.put, List.setIfInBounds_toArray, List.set_cons_zero, List.set_cons_succ, i64_w, i32_w]
  rfl
 refine pure_ (i := 5) (N := some 8) (v := ?_) (a' := ?_) #[true, true, true, true, true, true, false] rfl rfl (by kernel_rfl) (fun _ _ _ h => h) (Or.inl ⟨by rfl, ?_⟩) ?_ ?_
 rotate_left
 ·intro w'
  go_simp
  with_reducible rfl
 rotate_left
 ·simp only [Act.put, List.setIfInBounds_toArray, List.set_cons_zero, List.set_cons_succ, i64_w, i32_w]
  rfl
 refine one_ (i := 6) (N := none) #[true, true, true, true, true, true, true] rfl rfl (by kernel_rfl) (by decide) (fun K hK => ?_)
 have hs14 : w12.cell? ⟨gb1113, 0, none⟩ = some (.int .u8 0) := (blk_cell BK1113.out 0).trans rfl
 have hfs14 := blk_frozen BK1113.out 0
 have hns14_0 := NB1112_1113.out
 have hms14_0 := NB1113_1112.out
 have hs15 : w12.cell? ⟨gb1113, 1, none⟩ = some (.string (⟨#[]⟩ : ByteArray)) := (blk_cell BK1113.out 1).trans rfl
 have hfs15 := blk_frozen BK1113.out 1
 have hns15_0 := NB1112_1113.out
 have hms15_0 := NB1113_1112.out
 have hs16 : w12.cell? ⟨gb1113, 2, none⟩ = some (.bool false) := (blk_cell BK1113.out 2).trans rfl
 have hfs16 := blk_frozen BK1113.out 2
 have hns16_0 := NB1112_1113.out
 have hms16_0 := NB1113_1112.out
 have hs17 : w12.cell? ⟨gb1113, 3, none⟩ = some (.string (⟨#[]⟩ : ByteArray)) := (blk_cell BK1113.out 3).trans rfl
 have hfs17 := blk_frozen BK1113.out 3
 have hns17_0 := NB1112_1113.out
 have hms17_0 := NB1113_1112.out
 have hs18 : w12.cell? ⟨gb1113, 4, none⟩ = some (.slice none 0 0) := (blk_cell BK1113.out 4).trans rfl
 have hfs18 := blk_frozen BK1113.out 4
 have hns18_0 := NB1112_1113.out
 have hms18_0 := NB1113_1112.out
 have hs19 : w12.cell? ⟨gb1113, 5, none⟩ = some (.int .i64 0) := (blk_cell BK1113.out 5).trans rfl
 have hfs19 := blk_frozen BK1113.out 5
 have hns19_0 := NB1112_1113.out
 have hms19_0 := NB1113_1112.out
 have hs20 : w12.cell? ⟨gb1113, 6, none⟩ = some (.slice none 0 0) := (blk_cell BK1113.out 6).trans rfl
 have hfs20 := blk_frozen BK1113.out 6
 have hns20_0 := NB1112_1113.out
 have hms20_0 := NB1113_1112.out
 refine skip_ (w1 := ?_) (by rfl) rfl ?_ ?_
 rotate_left
 ·go_simp
  rfl
 refine hK.out _ _ ⟨((cell_far (p := ⟨gb1113, _, none⟩) NB1112_1113.out _).trans (((cell_far (p := ⟨gb1113, _, none⟩) NB1112_1113.out _).trans (((cell_far (p := ⟨gb1113, _, none⟩) NB1112_1113.out _).trans (((cell_far (p := ⟨gb1113, _, none⟩) NB1112_1113.out _).trans (((cell_far (p := ⟨gb1113, _, none⟩) NB1112_1113.out _).trans (((cell_far (p := ⟨gb1113, _, none⟩) NB1112_1113.out _).trans (((cell_far (p := ⟨gb1113, _, none⟩) NB1112_1113.out _).trans (hHeld.1)))))))))))))), ((cell_far (p := ⟨gb1113, _, none⟩) NB1112_1113.out _).trans (((cell_far (p := ⟨gb1113, _, none⟩) NB1112_1113.out _).trans (((cell_far (p := ⟨gb1113, _, none⟩) NB1112_1113.out _).trans (((cell_far (p := ⟨gb1113, _, none⟩) NB1112_1113.out _).trans (((cell_far (p := ⟨gb1113, _, none⟩) NB1112_1113.out _).trans (((cell_far (p := ⟨gb1113, _, none⟩) NB1112_1113.out _).trans (((cell_far (p := ⟨gb1113, _, none⟩) NB1112_1113.out _).trans (hHeld.2.1)))))))))))))), ((cell_far (p := ⟨gb1113, _, none⟩) NB1112_1113.out _).trans (((cell_far (p := ⟨gb1113, _, none⟩) NB1112_1113.out _).trans (((cell_far (p := ⟨gb1113, _, none⟩) NB1112_1113.out _).trans (((cell_far (p := ⟨gb1113, _, none⟩) NB1112_1113.out _).trans (((cell_far (p := ⟨gb1113, _, none⟩) NB1112_1113.out _).trans (((cell_far (p := ⟨gb1113, _, none⟩) NB1112_1113.out _).trans (((cell_far (p := ⟨gb1113, _, none⟩) NB1112_1113.out _).trans (hHeld.2.2))))))))))))))⟩ (fun hHeld => ?_)
 clear hK K
 refine done_ (by kernel_rfl) ?_
 try go_wp2
 refine bodyPost_ret (results_cell_row rfl _ _ gb1113 27 #[.int .u8 2, .string (⟨#[61]⟩ : ByteArray), .bool t1124, .string t1125, .slice Ao13 t1126.length co13, .int .i64 0, .slice none 0 0] (0, 0) _ rfl (by (with_reducible repeat (first | refine blk_drewN ?_ _ | refine blk_drew ?_ | refine blk_alloc ?_ _)); refine blk_put (cs := #[.int .u8 2, .string (⟨#[61]⟩ : ByteArray), .bool t1124, .string t1125, .slice Ao13 t1126.length co13, .int .i64 0, .slice none 0 0]) ?_ 6 _ rfl; (with_reducible repeat (first | refine blk_drewN ?_ _ | refine blk_drew ?_ | refine blk_alloc ?_ _)); refine blk_put (cs := #[.int .u8 2, .string (⟨#[61]⟩ : ByteArray), .bool t1124, .string t1125, .slice Ao13 t1126.length co13, .int .i64 0, .slice none 0 0]) ?_ 5 _ rfl; (with_reducible repeat (first | refine blk_drewN ?_ _ | refine blk_drew ?_ | refine blk_alloc ?_ _)); refine blk_put (cs := #[.int .u8 2, .string (⟨#[61]⟩ : ByteArray), .bool t1124, .string t1125, .slice none 0 0, .int .i64 0, .slice none 0 0]) ?_ 4 _ rfl; (with_reducible repeat (first | refine blk_drewN ?_ _ | refine blk_drew ?_ | refine blk_alloc ?_ _)); refine blk_put (cs := #[.int .u8 2, .string (⟨#[61]⟩ : ByteArray), .bool t1124, .string (⟨#[]⟩ : ByteArray), .slice none 0 0, .int .i64 0, .slice none 0 0]) ?_ 3 _ rfl; (with_reducible repeat (first | refine blk_drewN ?_ _ | refine blk_drew ?_ | refine blk_alloc ?_ _)); refine blk_put (cs := #[.int .u8 2, .string (⟨#[61]⟩ : ByteArray), .bool false, .string (⟨#[]⟩ : ByteArray), .slice none 0 0, .int .i64 0, .slice none 0 0]) ?_ 2 _ rfl; (with_reducible repeat (first | refine blk_drewN ?_ _ | refine blk_drew ?_ | refine blk_alloc ?_ _)); refine blk_put (cs := #[.int .u8 2, .string (⟨#[]⟩ : ByteArray), .bool false, .string (⟨#[]⟩ : ByteArray), .slice none 0 0, .int .i64 0, .slice none 0 0]) ?_ 1 _ rfl; (with_reducible repeat (first | refine blk_drewN ?_ _ | refine blk_drew ?_ | refine blk_alloc ?_ _)); refine blk_put (cs := #[.int .u8 0, .string (⟨#[]⟩ : ByteArray), .bool false, .string (⟨#[]⟩ : ByteArray), .slice none 0 0, .int .i64 0, .slice none 0 0]) ?_ 0 _ rfl; (with_reducible repeat (first | refine blk_drewN ?_ _ | refine blk_drew ?_ | refine blk_alloc ?_ _)); exact BK1113.out) Try.underlying27 rfl (by kernel_rfl)) rfl ?_
 exact ⟨_, _, by first | rfl | (simp [errW_none, errW_some] <;> rfl) | (simp [*, errW_none, errW_some] <;> rfl), by (with_reducible repeat (first | apply Kd.N_alloc | apply Kd.N_drewN | apply Kd.N_drew)); exact Kd.N_mono (Kd.N_far (p := ⟨gb1113, 6, none⟩) (Kd.N_far (p := ⟨gb1113, 5, none⟩) (Kd.N_far (p := ⟨gb1113, 4, none⟩) (Kd.N_far (p := ⟨gb1113, 3, none⟩) (Kd.N_far (p := ⟨gb1113, 2, none⟩) (Kd.N_far (p := ⟨gb1113, 1, none⟩) (Kd.N_far (p := ⟨gb1113, 0, none⟩) (Kd.N_mono HO1128.out (fun k_ hk => (⟨hk, hk.2.2.2.2⟩ : _ ∧ k_ ≠ gb1113))) (fun _ hk => hk.2) (.int .u8 2)) (fun _ hk => hk.2) (.string (⟨#[61]⟩ : ByteArray))) (fun _ hk => hk.2) (.bool t1124)) (fun _ hk => hk.2) (.string t1125)) (fun _ hk => hk.2) (.slice Ao13 t1126.length co13)) (fun _ hk => hk.2) (.int .i64 0)) (fun _ hk => hk.2) (.slice none 0 0)) (fun _ hk => ⟨hk.1.1, (by simp [Value.ownBlock])⟩), by first | exact Kd.R_nil _ _ _ _ _ | exact Kd.N_nil _ _ _ _ _ | exact Kd.V_nil _ _ _ _ _ | exact Kd.Q_nil _ _ _ _ _ | exact Kd.S_nil _ _ _ _ _, bel_⟩

end Go.Proofs.Ytecplbgdalchdaa.Q
