/- Proved here: parts of the proof of a given statement (HRowSignatureAdds): contracts of the functions that it reaches, what they answer, and in the last text the statement itself. Conditions: those that each theorem names. -/
import Derived.Test.YtgnklkmifcmlhaaZSAX3
-- written by a program of this session (wip/tools/myprint.py) out of the translation
namespace Go.Proofs.Ytgnklkmifcmlhaa.Q
open Go.RowKit Go.Proofs.YtgnklkmifcmlhaaW.PrintWords Go.Proofs.YtgnklkmifcmlhaaW.PrintLast Go.Proofs.YtgnklkmifcmlhaaW.PrintMore
attribute [local go_sem] max2_int min2_int max_two min_two max_three min_three max_four min_four   -- for this text's walks alone
set_option linter.unusedVariables false
set_option linter.unusedSimpArgs false

/-! ### sequentref01_Valid: function 62 -/
def sequentref01_Valid.f (k : Nat) (a0_0 : Bool) (a0_1 : ByteArray) (l0_2 : List (S25)) : Option (Bool) := (sequentref01_Small.f k a0_0 a0_1 l0_2).bind fun t159 => (if t159 = true then ((sequentref01_shape.f k a0_0 a0_1 l0_2).bind fun t160 => (some t160)) else (some false))
set_option maxHeartbeats 8000000 in
set_option maxRecDepth 100000 in
theorem sequentref01_Valid.calls (k : Nat) (a0_0 : Bool) (a0_1 : ByteArray) (A0_2 : Option Addr) (c0_2 : Nat) (l0_2 : List (S25)) (r : Bool) (w : World) (hr0_2 : Kd.C k25 w A0_2 l0_2.length l0_2) (hc0_2 : l0_2.length ≤ c0_2) (h : sequentref01_Valid.f k a0_0 a0_1 l0_2 = some r) :
 Calls Try.prog 62 #[.agg #[.bool a0_0, .string a0_1, .slice A0_2 l0_2.length c0_2]] w fun e w' => e = .returned (.bool r) ∧ Below w.heap.size w w' := by
 have hu25 := Try.underlying25
 have HR0_2 := Aside0.mk hr0_2
 have HC0_2 := Aside0.mk hc0_2
 clear hr0_2 hc0_2
 have HB := Aside0.mk (Below.refl w.heap.size w)
 have H : ((sequentref01_Small.f k a0_0 a0_1 l0_2).bind fun t159 => (if t159 = true then ((sequentref01_shape.f k a0_0 a0_1 l0_2).bind fun t160 => (some t160)) else (some false))) = some r := h
 clear h
 replace H := Option.bind_eq_some_iff.mp H
 obtain ⟨t159, A20, H⟩ := H
 replace H : (if t159 = true then ((sequentref01_shape.f k a0_0 a0_1 l0_2).bind fun t160 => (some t160)) else (some false)) = some r := H
 have A2 := Aside0.mk A20
 clear A20
 by_cases c3 : t159 = true
 ·subst c3
  have H1 : ((sequentref01_shape.f k a0_0 a0_1 l0_2).bind fun t160 => (some t160)) = some r := by rw [if_pos rfl] at H; exact H
  clear H
  have H := H1
  clear H1
  replace H := Option.bind_eq_some_iff.mp H
  obtain ⟨t160, A40, H⟩ := H
  replace H : (some t160) = some r := H
  have A4 := Aside0.mk A40
  clear A40
  obtain rfl := Option.some.inj H
  go_enter Try.func62, Try.ntmps62
  go_wp2_with (first | ((with_reducible refine gate_dst (N := 1) rfl ?_); refine box_event ?hg (N := 1) ?hd (cs := #[.bool a0_0, .string a0_1, .slice A0_2 l0_2.length c0_2]) (t := 25) ?hr ?_; (case hd => rfl); (case hg => rfl); (case hr => first | (go_simp; done) | (go_simp; rfl)); intro gb158 hg w5 hbox hb; have n0_ := Aside0.mk (below_step bel_ hb); have n1_ := Aside0.mk (hbox); have n2_ := Aside0.mk ((by rw [hg]; exact (below_size bel_) : w.heap.size ≤ gb158)); have n3_ := Aside0.mk ((by rw [hg]; exact (below_size bel_) : w.heap.size ≤ gb158)); clear HB; have HB := n0_; have BK158 := n1_; have GW158 := n2_; have GE158 := n3_; clear n0_ n1_ n2_ n3_; clear hb hbox hg; have hcz6_0 : w5.cell? ⟨gb158, 0, none⟩ = some (.bool a0_0) := (blk_cell BK158.out 0).trans rfl; have hcz6_1 : w5.cell? ⟨gb158, 1, none⟩ = some (.string a0_1) := (blk_cell BK158.out 1).trans rfl; have hcz6_2 : w5.cell? ⟨gb158, 2, none⟩ = some (.slice A0_2 l0_2.length c0_2) := (blk_cell BK158.out 2).trans rfl; have hfz6_0 := blk_frozen BK158.out 0; have hfz6_1 := blk_frozen BK158.out 1; have hfz6_2 := blk_frozen BK158.out 2) | ((with_reducible refine gate_callee (f := 65) rfl ?_); refine goesL_ (some 4) rfl rfl Try.func65 (by kernel_rfl) rfl #[.agg #[.bool a0_0, .string a0_1, .slice A0_2 l0_2.length c0_2]] rfl (by (try simp only [List.map_toArray, List.map_cons, List.map_nil]); first | done | rfl | (simp only [List.length_drop, List.length_take]; rfl)) ?_; (with_reducible refine (sequentref01_Small.calls k a0_0 a0_1 _ _ l0_2 true _ ?side1 ?side2 A2.out).mono ?_); (case side1 => repeat (first | exact (Kd.C_below HR0_2.out HB.out) | (with_reducible refine Kd.C_alloc ?_ _) | (with_reducible refine Kd.C_drewN ?_ _) | (with_reducible refine Kd.C_drew ?_))); (case side2 => exact HC0_2.out); rintro e w7 ⟨rfl, hb⟩; refine ⟨_, rfl, ?_⟩; have n0_ := Aside0.mk (blk_below (g := gb158) (o := .cells #[.bool a0_0, .string a0_1, .slice A0_2 l0_2.length c0_2] 25 (0, 0)) (bk_ BK158) hb); have n1_ := Aside0.mk (below_step bel_ hb); clear BK158; clear HB; have BK158 := n0_; have HB := n1_; clear n0_ n1_; (try clear hb); (try clear hb2); (try clear hk); (try clear hi); have hcz8_0 : w7.cell? ⟨gb158, 0, none⟩ = some (.bool a0_0) := (blk_cell BK158.out 0).trans rfl; have hcz8_1 : w7.cell? ⟨gb158, 1, none⟩ = some (.string a0_1) := (blk_cell BK158.out 1).trans rfl; have hcz8_2 : w7.cell? ⟨gb158, 2, none⟩ = some (.slice A0_2 l0_2.length c0_2) := (blk_cell BK158.out 2).trans rfl; have hfz8_0 := blk_frozen BK158.out 0; have hfz8_1 := blk_frozen BK158.out 1; have hfz8_2 := blk_frozen BK158.out 2) | (go_at_call 103; (with_reducible refine (sequentref01_shape.calls k a0_0 a0_1 _ _ l0_2 t160 _ ?side1 ?side2 A4.out).mono ?_); (case side1 => repeat (first | exact (Kd.C_below HR0_2.out HB.out) | (with_reducible refine Kd.C_alloc ?_ _) | (with_reducible refine Kd.C_drewN ?_ _) | (with_reducible refine Kd.C_drew ?_))); (case side2 => exact HC0_2.out); rintro e w9 ⟨rfl, hb⟩; have n0_ := Aside0.mk (blk_below (g := gb158) (o := .cells #[.bool a0_0, .string a0_1, .slice A0_2 l0_2.length c0_2] 25 (0, 0)) (bk_ BK158) hb); have n1_ := Aside0.mk (below_step bel_ hb); clear BK158; clear HB; have BK158 := n0_; have HB := n1_; clear n0_ n1_; (try clear hb); (try clear hb2); (try clear hk); (try clear hi)))
  go_ret
  exact ⟨by first | rfl | (simp [errW_none, errW_some] <;> rfl) | (simp [*, errW_none, errW_some] <;> rfl), bel_⟩
 ·replace c3 := Bool.eq_false_iff.mpr c3
  subst c3
  have H1 : (some false) = some r := by rw [if_neg (show ¬ (false = true) by decide)] at H; exact H
  clear H
  have H := H1
  clear H1
  obtain rfl := Option.some.inj H
  go_enter Try.func62, Try.ntmps62
  go_wp2_with (first | ((with_reducible refine gate_dst (N := 1) rfl ?_); refine box_event ?hg (N := 1) ?hd (cs := #[.bool a0_0, .string a0_1, .slice A0_2 l0_2.length c0_2]) (t := 25) ?hr ?_; (case hd => rfl); (case hg => rfl); (case hr => first | (go_simp; done) | (go_simp; rfl)); intro gb158 hg w10 hbox hb; have n0_ := Aside0.mk (below_step bel_ hb); have n1_ := Aside0.mk (hbox); have n2_ := Aside0.mk ((by rw [hg]; exact (below_size bel_) : w.heap.size ≤ gb158)); have n3_ := Aside0.mk ((by rw [hg]; exact (below_size bel_) : w.heap.size ≤ gb158)); clear HB; have HB := n0_; have BK158 := n1_; have GW158 := n2_; have GE158 := n3_; clear n0_ n1_ n2_ n3_; clear hb hbox hg; have hcz11_0 : w10.cell? ⟨gb158, 0, none⟩ = some (.bool a0_0) := (blk_cell BK158.out 0).trans rfl; have hcz11_1 : w10.cell? ⟨gb158, 1, none⟩ = some (.string a0_1) := (blk_cell BK158.out 1).trans rfl; have hcz11_2 : w10.cell? ⟨gb158, 2, none⟩ = some (.slice A0_2 l0_2.length c0_2) := (blk_cell BK158.out 2).trans rfl; have hfz11_0 := blk_frozen BK158.out 0; have hfz11_1 := blk_frozen BK158.out 1; have hfz11_2 := blk_frozen BK158.out 2) | ((with_reducible refine gate_callee (f := 65) rfl ?_); refine goesL_ (some 4) rfl rfl Try.func65 (by kernel_rfl) rfl #[.agg #[.bool a0_0, .string a0_1, .slice A0_2 l0_2.length c0_2]] rfl (by (try simp only [List.map_toArray, List.map_cons, List.map_nil]); first | done | rfl | (simp only [List.length_drop, List.length_take]; rfl)) ?_; (with_reducible refine (sequentref01_Small.calls k a0_0 a0_1 _ _ l0_2 false _ ?side1 ?side2 A2.out).mono ?_); (case side1 => repeat (first | exact (Kd.C_below HR0_2.out HB.out) | (with_reducible refine Kd.C_alloc ?_ _) | (with_reducible refine Kd.C_drewN ?_ _) | (with_reducible refine Kd.C_drew ?_))); (case side2 => exact HC0_2.out); rintro e w12 ⟨rfl, hb⟩; refine ⟨_, rfl, ?_⟩; have n0_ := Aside0.mk (blk_below (g := gb158) (o := .cells #[.bool a0_0, .string a0_1, .slice A0_2 l0_2.length c0_2] 25 (0, 0)) (bk_ BK158) hb); have n1_ := Aside0.mk (below_step bel_ hb); clear BK158; clear HB; have BK158 := n0_; have HB := n1_; clear n0_ n1_; (try clear hb); (try clear hb2); (try clear hk); (try clear hi)))
  go_ret
  exact ⟨by first | rfl | (simp [errW_none, errW_some] <;> rfl) | (simp [*, errW_none, errW_some] <;> rfl), bel_⟩

end Go.Proofs.Ytgnklkmifcmlhaa.Q
-- written by a program of this session (wip/tools/myprint.py) out of the translation
namespace Go.Proofs.Ytgnklkmifcmlhaa.Q
open Go.RowKit Go.Proofs.YtgnklkmifcmlhaaW.PrintWords Go.Proofs.YtgnklkmifcmlhaaW.PrintLast Go.Proofs.YtgnklkmifcmlhaaW.PrintMore
attribute [local go_sem] max2_int min2_int max_two min_two max_three min_three max_four min_four   -- for this text's walks alone
set_option linter.unusedVariables false
set_option linter.unusedSimpArgs false

/-! ### sequentref01_Check: function 29 -/
end Go.Proofs.Ytgnklkmifcmlhaa.Q
-- written by a program of this session (wip/tools/myprint.py) out of the translation
namespace Go.Proofs.Ytgnklkmifcmlhaa.Q
open Go.RowKit Go.Proofs.YtgnklkmifcmlhaaW.PrintWords Go.Proofs.YtgnklkmifcmlhaaW.PrintLast Go.Proofs.YtgnklkmifcmlhaaW.PrintMore
attribute [local go_sem] max2_int min2_int max_two min_two max_three min_three max_four min_four   -- for this text's walks alone
set_option linter.unusedVariables false
set_option linter.unusedSimpArgs false

/-! ### sequentref01_Twin: function 15 -/
mutual
def sequentref01_Twin.l0 : Nat → Int → Bool → ByteArray → List (S25) → Bool → ByteArray → List (S25) → Option (Bool × ByteArray × (List (S25)))
 | 0, _, _, _, _, _, _, _ => none
 | k + 1, x4, x110000, x110001, x110002, x112000, x112001, x112002 => if x4 < (x110002.length : Int) then (if 0 ≤ x4 then ((sequentref01_Twin.f k ((rd_T25 x110002 x4).f0) ((rd_T25 x110002 x4).f1) ((rd_T25 x110002 x4).f2)).bind fun bt113 => (if x112002.length < 2932031007402 then (sequentref01_Twin.l0 k (wrap64 (x4 + 1)) x110000 x110001 x110002 x112000 x112001 (x112002 ++ [(⟨bt113.1, bt113.2.1, bt113.2.2⟩ : S25)])) else (none))) else (none)) else (some (x112000, x112001, x112002))
def sequentref01_Twin.f : Nat → Bool → ByteArray → List (S25) → Option (Bool × ByteArray × (List (S25)))
 | 0, _, _, _ => none
 | k + 1, a0_0, a0_1, l0_2 => sequentref01_Twin.l0 k 0 a0_0 a0_1 l0_2 a0_0 a0_1 ([] : List (S25))
end
def sequentref01_Twin.T5 : Bool × List (List Nat × List Nat) := (true, [([], []), ([0], [0]), ([], []), ([2], [2]), ([], []), ([3, 4], [3, 4]), ([5], [5]), ([6], [6]), ([7], [7]), ([1, 8, 7], [1, 8]), ([0, 1, 2, 3, 4, 5, 6, 7, 8, 9], []), ([10, 9, 9, 0, 1, 2, 3, 4, 5, 6, 7, 8, 9], [9, 10])])
def sequentref01_Twin.B5 : List Nat := [0, 1, 0, 4, 0, 28, 60, 124, 252, 511, 1023, 2047]
theorem sequentref01_Twin.tab5 : rtab .any (opsOf Try.f15 5) = sequentref01_Twin.T5 := by kernel_rfl
theorem sequentref01_Twin.bits5 : waitsOk sequentref01_Twin.T5.2 sequentref01_Twin.B5 = true := by kernel_rfl
set_option maxHeartbeats 8000000 in
set_option maxRecDepth 100000 in
theorem sequentref01_Twin.calls (k : Nat) : ∀ (a0_0 : Bool) (a0_1 : ByteArray) (A0_2 : Option Addr) (c0_2 : Nat) (l0_2 : List (S25)) (r1 : Bool) (r2 : ByteArray) (r3 : List (S25)) (w : World) (hr0_2 : Kd.C k25 w A0_2 l0_2.length l0_2) (hc0_2 : l0_2.length ≤ c0_2) (h : sequentref01_Twin.f k a0_0 a0_1 l0_2 = some (r1, r2, r3)),
 Calls Try.prog 15 #[.agg #[.bool a0_0, .string a0_1, .slice A0_2 l0_2.length c0_2]] w fun e w' => ∃ v2_ : Value, e = .returned (.agg #[.bool r1, .string r2, v2_]) ∧ Kd.R k25 25 w' w.heap.size (fun _ => True) v2_ r3 ∧ Below w.heap.size w w' := by
 induction k using Nat.strongRecOn with
 | _ k ih =>
 intro a0_0 a0_1 A0_2 c0_2 l0_2 r1 r2 r3 w hr0_2 hc0_2 h
 cases k with
 | zero => exact absurd h (by simp [sequentref01_Twin.f])
 | succ k =>
 simp only [sequentref01_Twin.f] at h
 have hu25 := Try.underlying25
 have HR0_2 := Aside0.mk hr0_2
 have HC0_2 := Aside0.mk hc0_2
 clear hr0_2 hc0_2
 have HB := Aside0.mk (Below.refl w.heap.size w)
 have H : (sequentref01_Twin.l0 k 0 a0_0 a0_1 l0_2 a0_0 a0_1 ([] : List (S25))) = some (r1, r2, r3) := h
 clear h
 have H' := Aside0.mk H
 clear H
 go_enter Try.func15, Try.ntmps15
 go_wp2_with (first | ((with_reducible refine gate_dst (N := 1) rfl ?_); refine box_event ?hg (N := 1) ?hd (cs := #[.bool a0_0, .string a0_1, .slice A0_2 l0_2.length c0_2]) (t := 25) ?hr ?_; (case hd => rfl); (case hg => rfl); (case hr => first | (go_simp; done) | (go_simp; rfl)); intro gb109 hg w2 hbox hb; have n0_ := Aside0.mk (below_step bel_ hb); have n1_ := Aside0.mk (hbox); have n2_ := Aside0.mk ((by rw [hg]; exact (below_size bel_) : w.heap.size ≤ gb109)); have n3_ := Aside0.mk ((by rw [hg]; exact (below_size bel_) : w.heap.size ≤ gb109)); clear HB; have HB := n0_; have BK109 := n1_; have GW109 := n2_; have GE109 := n3_; clear n0_ n1_ n2_ n3_; clear hb hbox hg) | ((with_reducible refine gate_dst (N := 2) rfl ?_); refine box_event ?hg (N := 2) ?hd (cs := #[.bool false, .string (⟨#[]⟩ : ByteArray), .slice none 0 0]) (t := 25) ?hr ?_; (case hd => rfl); (case hg => rfl); (case hr => first | (go_simp; done) | (go_simp; rfl)); intro gb110 hg w3 hbox hb; have n0_ := Aside0.mk (blk_below (g := gb109) (o := .cells #[.bool a0_0, .string a0_1, .slice A0_2 l0_2.length c0_2] 25 (0, 0)) (bk_ BK109) hb); have n1_ := Aside0.mk (below_step bel_ hb); have n2_ := Aside0.mk (hbox); have n3_ := Aside0.mk ((by rw [hg]; exact (below_size bel_) : w.heap.size ≤ gb110)); have n4_ := Aside0.mk ((by rw [hg]; exact (below_size bel_) : w.heap.size ≤ gb110)); have n5_ := Aside0.mk ((by rw [hg]; exact Nat.ne_of_lt (blk_lt (g := gb109) (o := .cells #[.bool a0_0, .string a0_1, .slice A0_2 l0_2.length c0_2] 25 (0, 0)) (bk_ BK109)) : gb109 ≠ gb110)); have n6_ := Aside0.mk ((by rw [hg]; exact Nat.ne_of_gt (blk_lt (g := gb109) (o := .cells #[.bool a0_0, .string a0_1, .slice A0_2 l0_2.length c0_2] 25 (0, 0)) (bk_ BK109)) : gb110 ≠ gb109)); clear BK109; clear HB; have BK109 := n0_; have HB := n1_; have BK110 := n2_; have GW110 := n3_; have GE110 := n4_; have NB109_110 := n5_; have NB110_109 := n6_; clear n0_ n1_ n2_ n3_ n4_ n5_ n6_; clear hb hbox hg; have hnb4 := NB109_110.out; have hnc4 := NB110_109.out; have hcz5_0 : w3.cell? ⟨gb109, 0, none⟩ = some (.bool a0_0) := (blk_cell BK109.out 0).trans rfl; have hcz5_1 : w3.cell? ⟨gb109, 1, none⟩ = some (.string a0_1) := (blk_cell BK109.out 1).trans rfl; have hcz5_2 : w3.cell? ⟨gb109, 2, none⟩ = some (.slice A0_2 l0_2.length c0_2) := (blk_cell BK109.out 2).trans rfl; have hfz5_0 := blk_frozen BK109.out 0; have hfz5_1 := blk_frozen BK109.out 1; have hfz5_2 := blk_frozen BK109.out 2) | ((with_reducible refine gate_dst (N := 3) rfl ?_); refine box_event ?hg (N := 3) ?hd (cs := #[.bool false, .string (⟨#[]⟩ : ByteArray), .slice none 0 0]) (t := 25) ?hr ?_; (case hd => rfl); (case hg => rfl); (case hr => first | (go_simp; done) | (go_simp; rfl)); intro gb111 hg w6 hbox hb; have n0_ := Aside0.mk (blk_below (g := gb109) (o := .cells #[.bool a0_0, .string a0_1, .slice A0_2 l0_2.length c0_2] 25 (0, 0)) (bk_ BK109) hb); have n1_ := Aside0.mk (blk_below (g := gb110) (o := .cells #[.bool false, .string (⟨#[]⟩ : ByteArray), .slice none 0 0] 25 (0, 0)) (bk_ BK110) hb); have n2_ := Aside0.mk (below_step bel_ hb); have n3_ := Aside0.mk (hbox); have n4_ := Aside0.mk ((by rw [hg]; exact (below_size bel_) : w.heap.size ≤ gb111)); have n5_ := Aside0.mk ((by rw [hg]; exact (below_size bel_) : w.heap.size ≤ gb111)); have n6_ := Aside0.mk ((by rw [hg]; exact Nat.ne_of_lt (blk_lt (g := gb109) (o := .cells #[.bool a0_0, .string a0_1, .slice A0_2 l0_2.length c0_2] 25 (0, 0)) (bk_ BK109)) : gb109 ≠ gb111)); have n7_ := Aside0.mk ((by rw [hg]; exact Nat.ne_of_gt (blk_lt (g := gb109) (o := .cells #[.bool a0_0, .string a0_1, .slice A0_2 l0_2.length c0_2] 25 (0, 0)) (bk_ BK109)) : gb111 ≠ gb109)); have n8_ := Aside0.mk ((by rw [hg]; exact Nat.ne_of_lt (blk_lt (g := gb110) (o := .cells #[.bool false, .string (⟨#[]⟩ : ByteArray), .slice none 0 0] 25 (0, 0)) (bk_ BK110)) : gb110 ≠ gb111)); have n9_ := Aside0.mk ((by rw [hg]; exact Nat.ne_of_gt (blk_lt (g := gb110) (o := .cells #[.bool false, .string (⟨#[]⟩ : ByteArray), .slice none 0 0] 25 (0, 0)) (bk_ BK110)) : gb111 ≠ gb110)); clear BK109; clear BK110; clear HB; have BK109 := n0_; have BK110 := n1_; have HB := n2_; have BK111 := n3_; have GW111 := n4_; have GE111 := n5_; have NB109_111 := n6_; have NB111_109 := n7_; have NB110_111 := n8_; have NB111_110 := n9_; clear n0_ n1_ n2_ n3_ n4_ n5_ n6_ n7_ n8_ n9_; clear hb hbox hg; have hnb7 := NB111_109.out; have hnc7 := NB109_111.out; have hnb8 := NB111_110.out; have hnc8 := NB110_111.out; have hcz9_0 : w6.cell? ⟨gb111, 0, none⟩ = some (.bool false) := (blk_cell BK111.out 0).trans rfl; have hcz9_1 : w6.cell? ⟨gb111, 1, none⟩ = some (.string (⟨#[]⟩ : ByteArray)) := (blk_cell BK111.out 1).trans rfl; have hcz9_2 : w6.cell? ⟨gb111, 2, none⟩ = some (.slice none 0 0) := (blk_cell BK111.out 2).trans rfl; have hfz9_0 := blk_frozen BK111.out 0; have hfz9_1 := blk_frozen BK111.out 1; have hfz9_2 := blk_frozen BK111.out 2))
 go_loopg [4] k (fun kq v4 w' => ∃ (x4_1 : Int) (x112002_1 : List (S25)) (u112002 : Value), v4 = .int .i64 x4_1 ∧ Aside0 (sequentref01_Twin.l0 kq x4_1 a0_0 a0_1 l0_2 a0_0 a0_1 x112002_1 = some (r1, r2, r3)) ∧ Aside0 (kq ≤ k) ∧ Aside0 (Kd.R k25 25 w' w.heap.size (fun k_ => k_ ≠ gb109 ∧ k_ ≠ gb110 ∧ k_ ≠ gb111) u112002 x112002_1) ∧ Aside0 (w'.heap[gb109]? = some (.cells #[.bool a0_0, .string a0_1, (.slice A0_2 l0_2.length c0_2)] 25 (0, 0))) ∧ Aside0 (w'.heap[gb110]? = some (.cells #[.bool false, .string (⟨#[]⟩ : ByteArray), (.slice none 0 0)] 25 (0, 0))) ∧ Aside0 (w'.heap[gb111]? = some (.cells #[.bool a0_0, .string a0_1, u112002] 25 (0, 0))) ∧ Aside0 (Below w.heap.size w w'))
 case atStart => exact ⟨(0), (([] : List (S25))), (.slice none 0 0), (by first | rfl | (simp; done) | (simp [*]; done)), H', ⟨Nat.le_refl _⟩, ⟨by first | exact Kd.R_nil _ _ _ _ _ | exact Kd.N_nil _ _ _ _ _ | exact Kd.V_nil _ _ _ _ _ | exact Kd.Q_nil _ _ _ _ _ | exact Kd.S_nil _ _ _ _ _⟩, ⟨by (with_reducible repeat (first | refine blk_drewN ?_ _ | refine blk_drew ?_ | refine blk_alloc ?_ _)); refine blk_far ?_ NB109_111.out _; (with_reducible repeat (first | refine blk_drewN ?_ _ | refine blk_drew ?_ | refine blk_alloc ?_ _)); refine blk_far ?_ NB109_111.out _; (with_reducible repeat (first | refine blk_drewN ?_ _ | refine blk_drew ?_ | refine blk_alloc ?_ _)); refine blk_far ?_ NB109_111.out _; (with_reducible repeat (first | refine blk_drewN ?_ _ | refine blk_drew ?_ | refine blk_alloc ?_ _)); exact BK109.out⟩, ⟨by (with_reducible repeat (first | refine blk_drewN ?_ _ | refine blk_drew ?_ | refine blk_alloc ?_ _)); refine blk_far ?_ NB110_111.out _; (with_reducible repeat (first | refine blk_drewN ?_ _ | refine blk_drew ?_ | refine blk_alloc ?_ _)); refine blk_far ?_ NB110_111.out _; (with_reducible repeat (first | refine blk_drewN ?_ _ | refine blk_drew ?_ | refine blk_alloc ?_ _)); refine blk_far ?_ NB110_111.out _; (with_reducible repeat (first | refine blk_drewN ?_ _ | refine blk_drew ?_ | refine blk_alloc ?_ _)); exact BK110.out⟩, ⟨by (with_reducible repeat (first | refine blk_drewN ?_ _ | refine blk_drew ?_ | refine blk_alloc ?_ _)); refine blk_put (cs := #[.bool a0_0, .string a0_1, .slice none 0 0]) ?_ 2 _ rfl; (with_reducible repeat (first | refine blk_drewN ?_ _ | refine blk_drew ?_ | refine blk_alloc ?_ _)); refine blk_put (cs := #[.bool a0_0, .string (⟨#[]⟩ : ByteArray), .slice none 0 0]) ?_ 1 _ rfl; (with_reducible repeat (first | refine blk_drewN ?_ _ | refine blk_drew ?_ | refine blk_alloc ?_ _)); refine blk_put (cs := #[.bool false, .string (⟨#[]⟩ : ByteArray), .slice none 0 0]) ?_ 0 _ rfl; (with_reducible repeat (first | refine blk_drewN ?_ _ | refine blk_drew ?_ | refine blk_alloc ?_ _)); exact BK111.out⟩, ⟨bel_⟩⟩
 case round =>
  clear H'
  try clear c1
  try clear p2
  try clear c4
  try clear c7
  try clear c8
  try clear hcz5_0
  try clear hcz5_1
  try clear hcz5_2
  try clear hcz9_0
  try clear hcz9_1
  try clear hcz9_2
  try clear hfz5_0
  try clear hfz5_1
  try clear hfz5_2
  try clear hfz9_0
  try clear hfz9_1
  try clear hfz9_2
  obtain ⟨x4_1, x112002_1, u112002, rfl, HA, HK1, HO_112002, BK109, BK110, BK111, HB⟩ := hrel
  cases gk with
  | zero => exact absurd HA.out (by simp [sequentref01_Twin.l0])
  | succ k1 =>
   have H := HA.out
   clear HA
   simp only [sequentref01_Twin.l0] at H
   by_cases c10 : x4_1 < (l0_2.length : Int)
   ·rw [if_pos c10] at H
    have c10b0 : decide (x4_1 < (l0_2.length : Int)) = true := decide_eq_true c10
    clear c10
    by_cases c11 : 0 ≤ x4_1
    ·rw [if_pos c11] at H
     have c11b0 : decide (0 ≤ x4_1) = true := decide_eq_true c11
     clear c11
     replace H := Option.bind_eq_some_iff.mp H
     obtain ⟨⟨t113, t114, t115⟩, A120, H⟩ := H
     replace H : (if x112002_1.length < 2932031007402 then (sequentref01_Twin.l0 k1 (wrap64 (x4_1 + 1)) a0_0 a0_1 l0_2 a0_0 a0_1 (x112002_1 ++ [(⟨t113, t114, t115⟩ : S25)])) else (none)) = some (r1, r2, r3) := H
     have A12 := Aside0.mk A120
     clear A120
     by_cases c13 : x112002_1.length < 2932031007402
     ·rw [if_pos c13] at H
      have LMc13 := Aside0.mk c13
      clear c13
      obtain ⟨y118, hy118⟩ : ∃ y_ : List (S25), y_ = (x112002_1 ++ [(⟨t113, t114, t115⟩ : S25)]) := ⟨_, rfl⟩
      replace H : (sequentref01_Twin.l0 k1 (wrap64 (x4_1 + 1)) a0_0 a0_1 l0_2 a0_0 a0_1 y118) = some (r1, r2, r3) := by first | (rw [hy118]; with_reducible exact H) | (have H2_ := (Option.bind_some _ _).symm.trans H; rw [hy118]; with_reducible exact H2_) | (have H2_ := (Option.bind_some _ _).symm.trans H; with_reducible exact H2_) | with_reducible exact H | (rw [hy118]; exact H) | exact H
      have Ny118 := Aside0.mk hy118
      clear hy118
      have H' := Aside0.mk H
      clear H
      have hnb14 := NB109_110.out
      have hnc14 := NB110_109.out
      have hnb15 := NB109_111.out
      have hnc15 := NB111_109.out
      have hcz16_0 : wr.cell? ⟨gb109, 0, none⟩ = some (.bool a0_0) := (blk_cell BK109.out 0).trans rfl
      have hcz16_1 : wr.cell? ⟨gb109, 1, none⟩ = some (.string a0_1) := (blk_cell BK109.out 1).trans rfl
      have hcz16_2 : wr.cell? ⟨gb109, 2, none⟩ = some (.slice A0_2 l0_2.length c0_2) := (blk_cell BK109.out 2).trans rfl
      have hfz16_0 := blk_frozen BK109.out 0
      have hfz16_1 := blk_frozen BK109.out 1
      have hfz16_2 := blk_frozen BK109.out 2
      try go_wp2
      have n0_ := Aside0.mk (Kd.R_drew HO_112002.out)
      have n1_ := Aside0.mk (blk_drew BK109.out)
      have n2_ := Aside0.mk (blk_drew BK110.out)
      have n3_ := Aside0.mk (blk_drew BK111.out)
      have n4_ := Aside0.mk (below_drew1 HB.out)
      clear HO_112002
      clear BK109
      clear BK110
      clear BK111
      clear HB
      have HO_112002 := n0_
      have BK109 := n1_
      have BK110 := n2_
      have BK111 := n3_
      have HB := n4_
      clear n0_ n1_ n2_ n3_ n4_
      have p112 : 0 ≤ (x4_1 : Int) := dq_
      have q112 : x4_1 < (l0_2.length : Int) := dq_
      obtain ⟨ad112, A112_2, c112_2, e112, hx112_0, hx112_1, hx112_2, hl112_2, hi112_2⟩ := at_T25 HR0_2.out x4_1 p112 q112
      have hw112_2 := hx112_2
      have hw112_1 := hx112_1
      have hw112_0 := hx112_0
      cases e112
      replace hx112_0 := pw_cell_below HB.out hx112_0
      replace hx112_1 := pw_cell_below HB.out hx112_1
      replace hx112_2 := pw_cell_below HB.out hx112_2
      have HR112_2 := Aside0.mk hi112_2
      have HC112_2 := Aside0.mk hl112_2
      clear hi112_2 hl112_2
      replace p112 := eq_true p112
      replace q112 := eq_true q112
      refine start_ (n := 12) (S := fun w' => w'.cell? ⟨gb111, 0, none⟩ = some (.bool a0_0) ∧ w'.cell? ⟨gb111, 1, none⟩ = some (.string a0_1) ∧ w'.cell? ⟨gb111, 2, none⟩ = some (u112002) ∧ w'.cell? ⟨gb109, 0, none⟩ = some (.bool a0_0) ∧ w'.cell? ⟨gb109, 1, none⟩ = some (.string a0_1) ∧ w'.cell? ⟨gb109, 2, none⟩ = some (.slice (some ad112) l0_2.length c0_2) ∧ w'.cell? (ad112.add ((x4_1).toNat * 3)) = some (.bool ((rd_T25 l0_2 x4_1).f0)) ∧ w'.cell? ⟨(ad112.add ((x4_1).toNat * 3)).block, (ad112.add ((x4_1).toNat * 3)).off + 1, none⟩ = some (.string ((rd_T25 l0_2 x4_1).f1)) ∧ w'.cell? ⟨(ad112.add ((x4_1).toNat * 3)).block, (ad112.add ((x4_1).toNat * 3)).off + 2, none⟩ = some (.slice A112_2 ((rd_T25 l0_2 x4_1).f2).length c112_2)) (ds := [11]) #[false, false, false, false, false, false, false, false, false, false, false, false] (by kernel_rfl) rfl rfl ⟨(blk_cell BK111.out 0).trans rfl, (blk_cell BK111.out 1).trans rfl, (blk_cell BK111.out 2).trans rfl, (blk_cell BK109.out 0).trans rfl, (blk_cell BK109.out 1).trans rfl, (blk_cell BK109.out 2).trans rfl, (pw_cell_below HB.out hw112_0), (pw_cell_below HB.out hw112_1), (pw_cell_below HB.out hw112_2)⟩ (fun hHeld => ?_); refine with_tabW sequentref01_Twin.tab5 sequentref01_Twin.bits5 (fun HT_ HW_ => ?_)
      generalize wr.drew = w17 at HO_112002 BK109 BK110 BK111 HB HR112_2 hx112_0 hx112_1 hx112_2 hHeld ⊢
      refine pure_ (i := 0) (N := some 17) (v := ?_) (a' := ?_) #[true, false, false, false, false, false, false, false, false, false, false, false] rfl rfl (any_of HT_.out (by kernel_rfl)) (fun _ _ _ h => h) (Or.inl ⟨by rfl, ?_⟩) ?_ ?_
      rotate_left
      ·intro w'
       go_simp
       with_reducible rfl
      rotate_left
      ·simp only [Act.put, List.setIfInBounds_toArray, List.set_cons_zero, List.set_cons_succ, i64_w, i32_w]
       rfl
      refine pure_ (i := 2) (N := some 19) (v := ?_) (a' := ?_) #[true, false, true, false, false, false, false, false, false, false, false, false] rfl rfl (any_of HT_.out (by kernel_rfl)) (fun _ _ _ h => h) (Or.inl ⟨by rfl, ?_⟩) ?_ ?_
      rotate_left
      ·intro w'
       go_simp
       with_reducible rfl
      rotate_left
      ·simp only [Act.put, List.setIfInBounds_toArray, List.set_cons_zero, List.set_cons_succ, i64_w, i32_w]
       rfl
      refine pure_ (i := 4) (N := some 21) (v := ?_) (a' := ?_) #[true, false, true, false, true, false, false, false, false, false, false, false] rfl rfl (any_of HT_.out (by kernel_rfl)) (fun _ _ _ h => h) (Or.inl ⟨by rfl, ?_⟩) ?_ ?_
      rotate_left
      ·intro w'
       go_simp
       with_reducible rfl
      rotate_left
      ·simp only [Act.put, List.setIfInBounds_toArray, List.set_cons_zero, List.set_cons_succ, i64_w, i32_w]
       rfl
      refine take_ (i := 1) (N := some 18) (v := ?_) (a' := ?_) #[true, true, true, false, true, false, false, false, false, false, false, false] rfl rfl (take_ofW HT_.out HW_.out (by kernel_rfl)) (fun _ _ _ h => h) (Or.inl ⟨by rfl, ?_⟩) hHeld ?_ ?_
      rotate_left
      ·rintro w' ⟨s0, s1, s2, s3, s4, s5, s6, s7, s8⟩
       go_simp
       with_reducible rfl
      rotate_left
      ·simp only [Act.put, List.setIfInBounds_toArray, List.set_cons_zero, List.set_cons_succ, i64_w, i32_w]
       rfl
      refine take_ (i := 3) (N := some 20) (v := ?_) (a' := ?_) #[true, true, true, true, true, false, false, false, false, false, false, false] rfl rfl (take_ofW HT_.out HW_.out (by kernel_rfl)) (fun _ _ _ h => h) (Or.inl ⟨by rfl, ?_⟩) hHeld ?_ ?_
      rotate_left
      ·rintro w' ⟨s0, s1, s2, s3, s4, s5, s6, s7, s8⟩
       go_simp
       with_reducible rfl
      rotate_left
      ·simp only [Act.put, List.setIfInBounds_toArray, List.set_cons_zero, List.set_cons_succ, i64_w, i32_w]
       rfl
      refine pure_ (i := 5) (N := some 22) (v := ?_) (a' := ?_) #[true, true, true, true, true, true, false, false, false, false, false, false] rfl rfl (any_of HT_.out (by kernel_rfl)) (fun _ _ _ h => h) (Or.inl ⟨by rfl, ?_⟩) ?_ ?_
      rotate_left
      ·intro w'
       go_simp
       with_reducible rfl
      rotate_left
      ·simp only [Act.put, List.setIfInBounds_toArray, List.set_cons_zero, List.set_cons_succ, i64_w, i32_w]
       rfl
      refine take_ (i := 6) (N := some 23) (v := ?_) (a' := ?_) #[true, true, true, true, true, true, true, false, false, false, false, false] rfl rfl (take_ofW HT_.out HW_.out (by kernel_rfl)) (fun _ _ _ h => h) (Or.inl ⟨by rfl, ?_⟩) hHeld ?_ ?_
      rotate_left
      ·rintro w' ⟨s0, s1, s2, s3, s4, s5, s6, s7, s8⟩
       go_simp
       with_reducible rfl
      rotate_left
      ·simp only [Act.put, List.setIfInBounds_toArray, List.set_cons_zero, List.set_cons_succ, i64_w, i32_w]
       rfl
      refine one_ (i := 7) (N := some 24) #[true, true, true, true, true, true, true, true, false, false, false, false] rfl rfl (one_of HT_.out (by kernel_rfl)) (by decide) (fun K hK => ?_)
      refine goes_ Try.func15 (by kernel_rfl) rfl #[.agg #[.bool ((rd_T25 l0_2 x4_1).f0), .string ((rd_T25 l0_2 x4_1).f1), .slice A112_2 ((rd_T25 l0_2 x4_1).f2).length c112_2]] (by rfl) rfl rfl (by (try simp only [List.map_toArray, List.map_cons, List.map_nil]); first | done | rfl | (simp only [List.length_drop, List.length_take]; rfl)) ?_
      with_reducible refine (ih k1 (by have := HK1.out; omega) ((rd_T25 l0_2 x4_1).f0) ((rd_T25 l0_2 x4_1).f1) _ _ ((rd_T25 l0_2 x4_1).f2) t113 t114 t115 _ ?side1 ?side2 A12.out).mono ?_
      (case side1 => repeat (first | exact (Kd.C_below HR112_2.out HB.out) | (with_reducible refine Kd.C_alloc ?_ _) | (with_reducible refine Kd.C_drewN ?_ _) | (with_reducible refine Kd.C_drew ?_)))
      (case side2 => exact HC112_2.out)
      rintro e w18 ⟨v116, rfl, ho0, hb⟩
      refine ⟨_, rfl, ?_⟩
      have n0_ := Aside0.mk (Kd.R_elder' (by (with_reducible repeat (first | apply Kd.R_alloc | apply Kd.R_drewN | apply Kd.R_drew)); exact HO_112002.out) (Kd.R_base ho0) hb)
      have n1_ := Aside0.mk (Kd.R_lower (Kd.R_newB (Kd.R_newB (Kd.R_newB (Kd.R_new' ho0 (Kd.R_lt (by (with_reducible repeat (first | apply Kd.R_alloc | apply Kd.R_drewN | apply Kd.R_drew)); exact HO_112002.out))) (g := gb109) (o := .cells #[.bool a0_0, .string a0_1, .slice (some ad112) l0_2.length c0_2] 25 (0, 0)) (bk_ BK109)) (g := gb110) (o := .cells #[.bool false, .string (⟨#[]⟩ : ByteArray), .slice none 0 0] 25 (0, 0)) (bk_ BK110)) (g := gb111) (o := .cells #[.bool a0_0, .string a0_1, u112002] 25 (0, 0)) (bk_ BK111)) (below_size bel_))
      have n2_ := Aside0.mk (blk_below (g := gb109) (o := .cells #[.bool a0_0, .string a0_1, .slice (some ad112) l0_2.length c0_2] 25 (0, 0)) (bk_ BK109) hb)
      have n3_ := Aside0.mk (blk_below (g := gb110) (o := .cells #[.bool false, .string (⟨#[]⟩ : ByteArray), .slice none 0 0] 25 (0, 0)) (bk_ BK110) hb)
      have n4_ := Aside0.mk (blk_below (g := gb111) (o := .cells #[.bool a0_0, .string a0_1, u112002] 25 (0, 0)) (bk_ BK111) hb)
      have n5_ := Aside0.mk (below_step bel_ hb)
      clear HO_112002
      clear BK109
      clear BK110
      clear BK111
      clear HB
      have HO_112002 := n0_
      have HO117 := n1_
      have BK109 := n2_
      have BK110 := n3_
      have BK111 := n4_
      have HB := n5_
      clear n0_ n1_ n2_ n3_ n4_ n5_
      (try clear hb)
      (try clear hb2)
      (try clear hk)
      (try clear hi)
      (try clear ho0)
      obtain ⟨Ao20, co20, eo20⟩ := Kd.R_slice HO117.out
      (first | subst eo20 | (injection eo20 with f1_ f2_ f3_; have f4_ := f1_.symm; have f5_ := f3_.symm; clear f1_ f2_ f3_; subst f4_; subst f5_))
      refine hK.out _ _ ⟨(blk_cell BK111.out 0).trans rfl, (blk_cell BK111.out 1).trans rfl, (blk_cell BK111.out 2).trans rfl, (blk_cell BK109.out 0).trans rfl, (blk_cell BK109.out 1).trans rfl, (blk_cell BK109.out 2).trans rfl, (pw_cell_below HB.out hw112_0), (pw_cell_below HB.out hw112_1), (pw_cell_below HB.out hw112_2)⟩ (fun hHeld => ?_)
      clear hK K
      refine norm_ (a' := ?_) ?_ ?_
      rotate_left
      ·show Act.put _ (some 24) _ = _
       simp only [Act.put, List.setIfInBounds_toArray, List.set_cons_zero, List.set_cons_succ, i64_w, i32_w]
       rfl
      refine one_ (i := 8) (N := some 25) #[true, true, true, true, true, true, true, true, true, false, false, false] rfl rfl (one_of HT_.out (by kernel_rfl)) (by decide) (fun K hK => ?_)
      refine value_ (w1 := ?_) (v := ?_) (by rfl) rfl ?_ ?_
      rotate_left 2
      ·go_simp
       constructor
       ·rfl
       ·rfl
      refine hK.out _ _ ⟨(blk_cell (blk_alloc BK111.out _) 0).trans rfl, (blk_cell (blk_alloc BK111.out _) 1).trans rfl, (blk_cell (blk_alloc BK111.out _) 2).trans rfl, (blk_cell (blk_alloc BK109.out _) 0).trans rfl, (blk_cell (blk_alloc BK109.out _) 1).trans rfl, (blk_cell (blk_alloc BK109.out _) 2).trans rfl, (World.cell?_alloc_lt _ _ _ (World.block_lt_of_cell? _ _ ((pw_cell_below HB.out hw112_0)))).trans ((pw_cell_below HB.out hw112_0)), (World.cell?_alloc_lt _ _ _ (World.block_lt_of_cell? _ _ ((pw_cell_below HB.out hw112_1)))).trans ((pw_cell_below HB.out hw112_1)), (World.cell?_alloc_lt _ _ _ (World.block_lt_of_cell? _ _ ((pw_cell_below HB.out hw112_2)))).trans ((pw_cell_below HB.out hw112_2))⟩ (fun hHeld => ?_)
      clear hK K
      refine norm_ (a' := ?_) ?_ ?_
      rotate_left
      ·show Act.put _ (some 25) _ = _
       simp only [Act.put, List.setIfInBounds_toArray, List.set_cons_zero, List.set_cons_succ, i64_w, i32_w]
       rfl
      refine one_ (i := 9) (N := some 26) #[true, true, true, true, true, true, true, true, true, true, false, false] rfl rfl (one_of HT_.out (by kernel_rfl)) (by decide) (fun K hK => ?_)
      refine Kd.R_append_step k25 (w0 := w) w.heap.size (by rfl) (.tmp 18) (.tmp 25) 23 25 (.agg #[(.bool false), (.string ⟨#[]⟩), (.slice none 0 0)]) 48 rfl Try.underlying23 info25 rfl (by decide) (by omega) u112002 x112002_1 (⟨t113, t114, t115⟩ : S25) [.bool t113, .string t114, .slice Ao20 t115.length co20] (fun k_ => k_ ≠ gb109 ∧ k_ ≠ gb110 ∧ k_ ≠ gb111) (fun k_ => ((fun k_ => k_ ≠ gb109 ∧ k_ ≠ gb110 ∧ k_ ≠ gb111)) k_ ∧ some k_ ≠ (u112002 : Value).ownBlock) rfl rfl ?aP (fun _ hk => hk) ?aF ?aO ?aB ?aS ?aL ?_
      (case aP => exact k25_mkM _ _ _ (⟨t113, t114, t115⟩ : S25) (Kd.R_mono (HO117.out) (fun k_ hk => ⟨⟨hk.1.1.2, ⟨hk.1.2, hk.2⟩⟩, hk.1.1.1.2⟩)))
      (case aB => exact bel_)
      (case aF => exact (fun k_ hk => ⟨Kd.freshB (g := gb109) (o := .cells #[.bool a0_0, .string a0_1, .slice (some ad112) l0_2.length c0_2] 25 (0, 0)) (bk_ BK109) k_ hk, Kd.freshB (g := gb110) (o := .cells #[.bool false, .string (⟨#[]⟩ : ByteArray), .slice none 0 0] 25 (0, 0)) (bk_ BK110) k_ hk, Kd.freshB (g := gb111) (o := .cells #[.bool a0_0, .string a0_1, u112002] 25 (0, 0)) (bk_ BK111) k_ hk⟩))
      (case aO => exact (by (with_reducible repeat (first | apply Kd.R_alloc | apply Kd.R_drewN | apply Kd.R_drew)); exact Kd.R_mono HO_112002.out (fun _ hk => ⟨hk.1.1, ⟨hk.1.2.1, hk.1.2.2⟩⟩)))
      (case aS => exact (below_size bel_))
      (case aL => have := LMc13.out; omega)
      intro v119 w19 ho hb hg hat
      rw [← Ny118.out] at ho
      have n0_ := Aside0.mk (blk_grown (g := gb109) (o := .cells #[.bool a0_0, .string a0_1, .slice (some ad112) l0_2.length c0_2] 25 (0, 0)) (bk_ BK109) hg (Kd.R_away HO_112002.out (fun _ hk => hk.1.1)))
      have n1_ := Aside0.mk (blk_grown (g := gb110) (o := .cells #[.bool false, .string (⟨#[]⟩ : ByteArray), .slice none 0 0] 25 (0, 0)) (bk_ BK110) hg (Kd.R_away HO_112002.out (fun _ hk => hk.1.2.1)))
      have n2_ := Aside0.mk (blk_grown (g := gb111) (o := .cells #[.bool a0_0, .string a0_1, u112002] 25 (0, 0)) (bk_ BK111) hg (Kd.R_away HO_112002.out (fun _ hk => hk.1.2.2)))
      have n3_ := Aside0.mk (hb)
      have n4_ := Aside0.mk (ho)
      clear BK109
      clear BK110
      clear BK111
      clear HB
      clear HO_112002
      clear HO117
      have BK109 := n0_
      have BK110 := n1_
      have BK111 := n2_
      have HB := n3_
      have HO120 := n4_
      clear n0_ n1_ n2_ n3_ n4_
      clear ho hb hg hat
      obtain ⟨Ao21, co21, eo21⟩ := Kd.R_slice HO120.out
      (first | subst eo21 | (injection eo21 with f1_ f2_ f3_; have f4_ := f1_.symm; have f5_ := f3_.symm; clear f1_ f2_ f3_; subst f4_; subst f5_))
      refine hK.out _ _ ⟨(blk_cell BK111.out 0).trans rfl, (blk_cell BK111.out 1).trans rfl, (blk_cell BK111.out 2).trans rfl, (blk_cell BK109.out 0).trans rfl, (blk_cell BK109.out 1).trans rfl, (blk_cell BK109.out 2).trans rfl, (pw_cell_below HB.out hw112_0), (pw_cell_below HB.out hw112_1), (pw_cell_below HB.out hw112_2)⟩ (fun hHeld => ?_)
      clear hK K
      refine norm_ (a' := ?_) ?_ ?_
      rotate_left
      ·show Act.put _ (some 26) _ = _
       simp only [Act.put, List.setIfInBounds_toArray, List.set_cons_zero, List.set_cons_succ, i64_w, i32_w]
       rfl
      refine pure_ (i := 10) (N := some 27) (v := ?_) (a' := ?_) #[true, true, true, true, true, true, true, true, true, true, true, false] rfl rfl (any_of HT_.out (by kernel_rfl)) (fun _ _ _ h => h) (Or.inl ⟨by rfl, ?_⟩) ?_ ?_
      rotate_left
      ·intro w'
       go_simp
       with_reducible rfl
      rotate_left
      ·simp only [Act.put, List.setIfInBounds_toArray, List.set_cons_zero, List.set_cons_succ, i64_w, i32_w]
       rfl
      refine last_ (i := 11) (N := none) #[true, true, true, true, true, true, true, true, true, true, true, true] rfl rfl (one_of HT_.out (by kernel_rfl)) (by decide) (fun K hK => ?_)
      have hs22 : w19.cell? ⟨gb111, 2, none⟩ = some (u112002) := (blk_cell BK111.out 2).trans rfl
      have hfs22 := blk_frozen BK111.out 2
      have hns22_0 := NB109_111.out
      have hns22_1 := NB110_111.out
      have hms22_0 := NB111_109.out
      have hms22_1 := NB111_110.out
      refine skip_ (w1 := ?_) (by rfl) rfl ?_ ?_
      rotate_left
      ·go_simp
       rfl
      refine hK.out _ _ ?_
      clear hK K
      refine done_ (done_of HT_.out (by kernel_rfl)) ?_
      try go_wp2
      go_roundg k1
      case measure => have := HK1.out; omega
      case rel => exact ⟨(wrap64 (x4_1 + 1)), (y118), (.slice Ao21 y118.length co21), (by first | rfl | (simp; done) | (simp [*]; done)), H', ⟨by have := HK1.out; omega⟩, ⟨by (with_reducible repeat (first | apply Kd.R_alloc | apply Kd.R_drewN | apply Kd.R_drew)); exact Kd.R_mono (Kd.R_far (p := ⟨gb111, 2, none⟩) (Kd.R_mono HO120.out (fun k_ hk => (⟨hk, hk.2.2⟩ : _ ∧ k_ ≠ gb111))) (fun _ hk => hk.2) (.slice Ao21 y118.length co21)) (fun _ hk => ⟨hk.1.1, ⟨hk.1.2.1, hk.1.2.2⟩⟩)⟩, ⟨by (with_reducible repeat (first | refine blk_drewN ?_ _ | refine blk_drew ?_ | refine blk_alloc ?_ _)); refine blk_far ?_ NB109_111.out _; (with_reducible repeat (first | refine blk_drewN ?_ _ | refine blk_drew ?_ | refine blk_alloc ?_ _)); exact BK109.out⟩, ⟨by (with_reducible repeat (first | refine blk_drewN ?_ _ | refine blk_drew ?_ | refine blk_alloc ?_ _)); refine blk_far ?_ NB110_111.out _; (with_reducible repeat (first | refine blk_drewN ?_ _ | refine blk_drew ?_ | refine blk_alloc ?_ _)); exact BK110.out⟩, ⟨by (with_reducible repeat (first | refine blk_drewN ?_ _ | refine blk_drew ?_ | refine blk_alloc ?_ _)); refine blk_put (cs := #[.bool a0_0, .string a0_1, u112002]) ?_ 2 _ rfl; (with_reducible repeat (first | refine blk_drewN ?_ _ | refine blk_drew ?_ | refine blk_alloc ?_ _)); exact BK111.out⟩, ⟨bel_⟩⟩
     ·rw [if_neg c13] at H
      exact absurd H (by simp)
    ·rw [if_neg c11] at H
     exact absurd H (by simp)
   ·rw [if_neg c10] at H
    have c10b0 : decide (x4_1 < (l0_2.length : Int)) = false := decide_eq_false c10
    clear c10
    simp only [Option.some.injEq, Prod.mk.injEq] at H
    obtain ⟨rfl, rfl, rfl⟩ := H
    have hnb23 := NB109_110.out
    have hnc23 := NB110_109.out
    have hnb24 := NB109_111.out
    have hnc24 := NB111_109.out
    have hcz25_0 : wr.cell? ⟨gb109, 0, none⟩ = some (.bool a0_0) := (blk_cell BK109.out 0).trans rfl
    have hcz25_1 : wr.cell? ⟨gb109, 1, none⟩ = some (.string a0_1) := (blk_cell BK109.out 1).trans rfl
    have hcz25_2 : wr.cell? ⟨gb109, 2, none⟩ = some (.slice A0_2 l0_2.length c0_2) := (blk_cell BK109.out 2).trans rfl
    have hfz25_0 := blk_frozen BK109.out 0
    have hfz25_1 := blk_frozen BK109.out 1
    have hfz25_2 := blk_frozen BK109.out 2
    have hnb26 := NB111_110.out
    have hnc26 := NB110_111.out
    have hcz27_0 : wr.cell? ⟨gb111, 0, none⟩ = some (.bool a0_0) := (blk_cell BK111.out 0).trans rfl
    have hcz27_1 : wr.cell? ⟨gb111, 1, none⟩ = some (.string a0_1) := (blk_cell BK111.out 1).trans rfl
    have hcz27_2 : wr.cell? ⟨gb111, 2, none⟩ = some (u112002) := (blk_cell BK111.out 2).trans rfl
    have hfz27_0 := blk_frozen BK111.out 0
    have hfz27_1 := blk_frozen BK111.out 1
    have hfz27_2 := blk_frozen BK111.out 2
    have hcz28_0 : wr.cell? ⟨gb110, 0, none⟩ = some (.bool false) := (blk_cell BK110.out 0).trans rfl
    have hcz28_1 : wr.cell? ⟨gb110, 1, none⟩ = some (.string (⟨#[]⟩ : ByteArray)) := (blk_cell BK110.out 1).trans rfl
    have hcz28_2 : wr.cell? ⟨gb110, 2, none⟩ = some (.slice none 0 0) := (blk_cell BK110.out 2).trans rfl
    have hfz28_0 := blk_frozen BK110.out 0
    have hfz28_1 := blk_frozen BK110.out 1
    have hfz28_2 := blk_frozen BK110.out 2
    obtain ⟨Ao29, co29, eo29⟩ := Kd.R_slice HO_112002.out
    subst eo29
    go_wp2
    refine bodyPost_ret (results_cell_row rfl _ _ gb110 25 #[.bool a0_0, .string a0_1, .slice Ao29 x112002_1.length co29] (0, 0) _ rfl (by (with_reducible repeat (first | refine blk_drewN ?_ _ | refine blk_drew ?_ | refine blk_alloc ?_ _)); refine blk_put (cs := #[.bool a0_0, .string a0_1, .slice none 0 0]) ?_ 2 _ rfl; (with_reducible repeat (first | refine blk_drewN ?_ _ | refine blk_drew ?_ | refine blk_alloc ?_ _)); refine blk_put (cs := #[.bool a0_0, .string (⟨#[]⟩ : ByteArray), .slice none 0 0]) ?_ 1 _ rfl; (with_reducible repeat (first | refine blk_drewN ?_ _ | refine blk_drew ?_ | refine blk_alloc ?_ _)); refine blk_put (cs := #[.bool false, .string (⟨#[]⟩ : ByteArray), .slice none 0 0]) ?_ 0 _ rfl; (with_reducible repeat (first | refine blk_drewN ?_ _ | refine blk_drew ?_ | refine blk_alloc ?_ _)); exact BK110.out) Try.underlying25 rfl (by kernel_rfl)) rfl ?_
    exact ⟨_, by first | rfl | (simp [errW_none, errW_some] <;> rfl) | (simp [*, errW_none, errW_some] <;> rfl), by (with_reducible repeat (first | apply Kd.R_alloc | apply Kd.R_drewN | apply Kd.R_drew)); exact Kd.R_mono (Kd.R_far (p := ⟨gb110, 2, none⟩) (Kd.R_far (p := ⟨gb110, 1, none⟩) (Kd.R_far (p := ⟨gb110, 0, none⟩) (Kd.R_mono HO_112002.out (fun k_ hk => (⟨hk, hk.2.1⟩ : _ ∧ k_ ≠ gb110))) (fun _ hk => hk.2) (.bool a0_0)) (fun _ hk => hk.2) (.string a0_1)) (fun _ hk => hk.2) (.slice Ao29 x112002_1.length co29)) (fun _ hk => trivial), bel_⟩

end Go.Proofs.Ytgnklkmifcmlhaa.Q
-- written by a program of this session (wip/tools/myprint.py) out of the translation
namespace Go.Proofs.Ytgnklkmifcmlhaa.Q
open Go.RowKit Go.Proofs.YtgnklkmifcmlhaaW.PrintWords Go.Proofs.YtgnklkmifcmlhaaW.PrintLast Go.Proofs.YtgnklkmifcmlhaaW.PrintMore
attribute [local go_sem] max2_int min2_int max_two min_two max_three min_three max_four min_four   -- for this text's walks alone
set_option linter.unusedVariables false
set_option linter.unusedSimpArgs false

/-! ### sequentref01_ValidBinds: function 61 -/
end Go.Proofs.Ytgnklkmifcmlhaa.Q
-- written by a program of this session (wip/tools/myprint.py) out of the translation
namespace Go.Proofs.Ytgnklkmifcmlhaa.Q
open Go.RowKit Go.Proofs.YtgnklkmifcmlhaaW.PrintWords Go.Proofs.YtgnklkmifcmlhaaW.PrintLast Go.Proofs.YtgnklkmifcmlhaaW.PrintMore
attribute [local go_sem] max2_int min2_int max_two min_two max_three min_three max_four min_four   -- for this text's walks alone
set_option linter.unusedVariables false
set_option linter.unusedSimpArgs false

/-! ### sequentref01_DestFun: function 26 -/
end Go.Proofs.Ytgnklkmifcmlhaa.Q
-- written by a program of this session (wip/tools/myprint.py) out of the translation
namespace Go.Proofs.Ytgnklkmifcmlhaa.Q
open Go.RowKit Go.Proofs.YtgnklkmifcmlhaaW.PrintWords Go.Proofs.YtgnklkmifcmlhaaW.PrintLast Go.Proofs.YtgnklkmifcmlhaaW.PrintMore
attribute [local go_sem] max2_int min2_int max_two min_two max_three min_three max_four min_four   -- for this text's walks alone
set_option linter.unusedVariables false
set_option linter.unusedSimpArgs false

/-! ### sequentref01_Fun: function 37 -/
end Go.Proofs.Ytgnklkmifcmlhaa.Q
-- written by a program of this session (wip/tools/myprint.py) out of the translation
namespace Go.Proofs.Ytgnklkmifcmlhaa.Q
open Go.RowKit Go.Proofs.YtgnklkmifcmlhaaW.PrintWords Go.Proofs.YtgnklkmifcmlhaaW.PrintLast Go.Proofs.YtgnklkmifcmlhaaW.PrintMore
attribute [local go_sem] max2_int min2_int max_two min_two max_three min_three max_four min_four   -- for this text's walks alone
set_option linter.unusedVariables false
set_option linter.unusedSimpArgs false

/-! ### sequentref14_Operators: function 77 -/
end Go.Proofs.Ytgnklkmifcmlhaa.Q
-- written by a program of this session (wip/tools/myprint.py) out of the translation
namespace Go.Proofs.Ytgnklkmifcmlhaa.Q
open Go.RowKit Go.Proofs.YtgnklkmifcmlhaaW.PrintWords Go.Proofs.YtgnklkmifcmlhaaW.PrintLast Go.Proofs.YtgnklkmifcmlhaaW.PrintMore
attribute [local go_sem] max2_int min2_int max_two min_two max_three min_three max_four min_four   -- for this text's walks alone
set_option linter.unusedVariables false
set_option linter.unusedSimpArgs false

/-! ### sequentref14_Overloads: function 78 -/
end Go.Proofs.Ytgnklkmifcmlhaa.Q
-- written by a program of this session (wip/tools/myprint.py) out of the translation
namespace Go.Proofs.Ytgnklkmifcmlhaa.Q
open Go.RowKit Go.Proofs.YtgnklkmifcmlhaaW.PrintWords Go.Proofs.YtgnklkmifcmlhaaW.PrintLast Go.Proofs.YtgnklkmifcmlhaaW.PrintMore
attribute [local go_sem] max2_int min2_int max_two min_two max_three min_three max_four min_four   -- for this text's walks alone
set_option linter.unusedVariables false
set_option linter.unusedSimpArgs false

/-! ### sequentref02_Name: function 92 -/
def sequentref02_Name.f (k : Nat) (a0 : ByteArray) : Option (Bool) := (sequentref01_Name.f k a0).bind fun t748 => (if t748 = true then (if 0 < (a0.size : Int) then (some ((bt a0 0) != 39)) else (none)) else (some false))
set_option maxHeartbeats 8000000 in
set_option maxRecDepth 100000 in
theorem sequentref02_Name.calls (k : Nat) (a0 : ByteArray) (r : Bool) (w : World) (h : sequentref02_Name.f k a0 = some r) :
 Calls Try.prog 92 #[.string a0] w fun e w' => e = .returned (.bool r) ∧ Drawn0 w w' := by
 have H : ((sequentref01_Name.f k a0).bind fun t748 => (if t748 = true then (if 0 < (a0.size : Int) then (some ((bt a0 0) != 39)) else (none)) else (some false))) = some r := h
 clear h
 replace H := Option.bind_eq_some_iff.mp H
 obtain ⟨t748, A20, H⟩ := H
 replace H : (if t748 = true then (if 0 < (a0.size : Int) then (some ((bt a0 0) != 39)) else (none)) else (some false)) = some r := H
 have A2 := Aside0.mk A20
 clear A20
 by_cases c3 : t748 = true
 ·subst c3
  have H1 : (if 0 < (a0.size : Int) then (some ((bt a0 0) != 39)) else (none)) = some r := by rw [if_pos rfl] at H; exact H
  clear H
  have H := H1
  clear H1
  by_cases c4 : 0 < (a0.size : Int)
  ·rw [if_pos c4] at H
   have c4b0 : decide (0 < (a0.size : Int)) = true := decide_eq_true c4
   have c4b1 : decide (0 < a0.size) = true := decide_eq_true (by omega)
   clear c4
   obtain rfl := Option.some.inj H
   go_enter Try.func92, Try.ntmps92
   go_wp2_with (first | ((with_reducible refine gate_callee (f := 122) rfl ?_); refine goesL_ (some 4) rfl rfl Try.func122 (by kernel_rfl) rfl #[.string a0] rfl (by (try simp only [List.map_toArray, List.map_cons, List.map_nil]); first | done | rfl | (simp only [List.length_drop, List.length_take]; rfl)) ?_; (with_reducible refine (sequentref01_Name.calls k a0 true _ A2.out).mono ?_); rintro e w' ⟨rfl, ⟨nd, rfl⟩⟩; refine ⟨_, rfl, ?_⟩; have p5 : 0 ≤ (0 : Int) := (by omega); have q5 : 0 < a0.size := (by have : (0 : Int) < (a0.size : Int) := dq_; omega); have hx5 : ∀ h : 0 < a0.size, ((a0[0]'h).toNat : Int) = bt a0 0 := bt_at a0 0; clear p5; have qi5 : (0 < (a0.size : Int)) = True := eq_true (dq_); replace q5 := eq_true q5))
   go_ret
   exact ⟨by first | rfl | (simp; done) | (simp [*]; done), by repeat (first | exact Drawn0.refl _ | apply Drawn0.step)⟩
  ·rw [if_neg c4] at H
   exact absurd H (by simp)
 ·replace c3 := Bool.eq_false_iff.mpr c3
  subst c3
  have H1 : (some false) = some r := by rw [if_neg (show ¬ (false = true) by decide)] at H; exact H
  clear H
  have H := H1
  clear H1
  obtain rfl := Option.some.inj H
  go_enter Try.func92, Try.ntmps92
  go_wp2_with (first | ((with_reducible refine gate_callee (f := 122) rfl ?_); refine goesL_ (some 4) rfl rfl Try.func122 (by kernel_rfl) rfl #[.string a0] rfl (by (try simp only [List.map_toArray, List.map_cons, List.map_nil]); first | done | rfl | (simp only [List.length_drop, List.length_take]; rfl)) ?_; (with_reducible refine (sequentref01_Name.calls k a0 false _ A2.out).mono ?_); rintro e w' ⟨rfl, ⟨nd, rfl⟩⟩; refine ⟨_, rfl, ?_⟩))
  go_ret
  exact ⟨by first | rfl | (simp; done) | (simp [*]; done), by repeat (first | exact Drawn0.refl _ | apply Drawn0.step)⟩

end Go.Proofs.Ytgnklkmifcmlhaa.Q
-- written by a program of this session (wip/tools/myprint.py) out of the translation
namespace Go.Proofs.Ytgnklkmifcmlhaa.Q
open Go.RowKit Go.Proofs.YtgnklkmifcmlhaaW.PrintWords Go.Proofs.YtgnklkmifcmlhaaW.PrintLast Go.Proofs.YtgnklkmifcmlhaaW.PrintMore
attribute [local go_sem] max2_int min2_int max_two min_two max_three min_three max_four min_four   -- for this text's walks alone
set_option linter.unusedVariables false
set_option linter.unusedSimpArgs false

/-! ### sequentref14_GreatSyntax: function 44 -/
end Go.Proofs.Ytgnklkmifcmlhaa.Q
-- written by a program of this session (wip/tools/myprint.py) out of the translation
namespace Go.Proofs.Ytgnklkmifcmlhaa.Q
open Go.RowKit Go.Proofs.YtgnklkmifcmlhaaW.PrintWords Go.Proofs.YtgnklkmifcmlhaaW.PrintLast Go.Proofs.YtgnklkmifcmlhaaW.PrintMore
attribute [local go_sem] max2_int min2_int max_two min_two max_three min_three max_four min_four   -- for this text's walks alone
set_option linter.unusedVariables false
set_option linter.unusedSimpArgs false

/-! ### signature_operator: function 85 -/
def signature_operator.f (k : Nat) (a0 : ByteArray) : Option (Bool) := (types_Check.f k false a0 ([] : List (S25))).bind fun t803 => (some (t803 == 0))
set_option maxHeartbeats 8000000 in
set_option maxRecDepth 100000 in
theorem signature_operator.calls (k : Nat) (a0 : ByteArray) (r : Bool) (w : World) (h : signature_operator.f k a0 = some r) :
 Calls Try.prog 85 #[.string a0] w fun e w' => e = .returned (.bool r) ∧ Below w.heap.size w w' := by
 have hu25 := Try.underlying25
 have HB := Aside0.mk (Below.refl w.heap.size w)
 have H : ((types_Check.f k false a0 ([] : List (S25))).bind fun t803 => (some (t803 == 0))) = some r := h
 clear h
 replace H := Option.bind_eq_some_iff.mp H
 obtain ⟨t803, A20, H⟩ := H
 replace H : (some (t803 == 0)) = some r := H
 have A2 := Aside0.mk A20
 clear A20
 obtain rfl := Option.some.inj H
 go_enter Try.func85, Try.ntmps85
 go_wp2_with (first | ((with_reducible refine gate_callee (f := 28) rfl ?_); refine goesL_ (some 5) rfl rfl Try.func28 (by kernel_rfl) rfl #[.agg #[.bool false, .string a0, .slice none 0 0]] rfl (by (try simp only [List.map_toArray, List.map_cons, List.map_nil]); first | done | rfl | (simp only [List.length_drop, List.length_take]; rfl)) ?_; (refine (types_Check.calls k false a0 _ _ ([] : List (S25)) t803 _ ?side1 ?side2 A2.out).mono ?_); (case side1 => exact Kd.C_nil _ _); (case side2 => exact Nat.le_refl _); rintro e w3 ⟨rfl, hb⟩; refine ⟨_, rfl, ?_⟩; have n0_ := Aside0.mk (below_step bel_ hb); clear HB; have HB := n0_; clear n0_; (try clear hb); (try clear hb2); (try clear hk); (try clear hi)))
 go_ret
 exact ⟨by first | rfl | (simp [errW_none, errW_some] <;> rfl) | (simp [*, errW_none, errW_some] <;> rfl), bel_⟩

end Go.Proofs.Ytgnklkmifcmlhaa.Q
-- written by a program of this session (wip/tools/myprint.py) out of the translation
namespace Go.Proofs.Ytgnklkmifcmlhaa.Q
open Go.RowKit Go.Proofs.YtgnklkmifcmlhaaW.PrintWords Go.Proofs.YtgnklkmifcmlhaaW.PrintLast Go.Proofs.YtgnklkmifcmlhaaW.PrintMore
attribute [local go_sem] max2_int min2_int max_two min_two max_three min_three max_four min_four   -- for this text's walks alone
set_option linter.unusedVariables false
set_option linter.unusedSimpArgs false

/-! ### sequentref04_Operator: function 88 -/
def sequentref04_Operator.f (k : Nat) (a0 : ByteArray) : Option (Bool) := (sequentref01_Name.f k a0).bind fun t808 => (if t808 = true then (if 0 < (a0.size : Int) then (some ((bt a0 0) != 39)) else (none)) else (some false))
set_option maxHeartbeats 8000000 in
set_option maxRecDepth 100000 in
theorem sequentref04_Operator.calls (k : Nat) (a0 : ByteArray) (r : Bool) (w : World) (h : sequentref04_Operator.f k a0 = some r) :
 Calls Try.prog 88 #[.string a0] w fun e w' => e = .returned (.bool r) ∧ Drawn0 w w' := by
 have H : ((sequentref01_Name.f k a0).bind fun t808 => (if t808 = true then (if 0 < (a0.size : Int) then (some ((bt a0 0) != 39)) else (none)) else (some false))) = some r := h
 clear h
 replace H := Option.bind_eq_some_iff.mp H
 obtain ⟨t808, A20, H⟩ := H
 replace H : (if t808 = true then (if 0 < (a0.size : Int) then (some ((bt a0 0) != 39)) else (none)) else (some false)) = some r := H
 have A2 := Aside0.mk A20
 clear A20
 by_cases c3 : t808 = true
 ·subst c3
  have H1 : (if 0 < (a0.size : Int) then (some ((bt a0 0) != 39)) else (none)) = some r := by rw [if_pos rfl] at H; exact H
  clear H
  have H := H1
  clear H1
  by_cases c4 : 0 < (a0.size : Int)
  ·rw [if_pos c4] at H
   have c4b0 : decide (0 < (a0.size : Int)) = true := decide_eq_true c4
   have c4b1 : decide (0 < a0.size) = true := decide_eq_true (by omega)
   clear c4
   obtain rfl := Option.some.inj H
   go_enter Try.func88, Try.ntmps88
   go_wp2_with (first | ((with_reducible refine gate_callee (f := 122) rfl ?_); refine goesL_ (some 4) rfl rfl Try.func122 (by kernel_rfl) rfl #[.string a0] rfl (by (try simp only [List.map_toArray, List.map_cons, List.map_nil]); first | done | rfl | (simp only [List.length_drop, List.length_take]; rfl)) ?_; (with_reducible refine (sequentref01_Name.calls k a0 true _ A2.out).mono ?_); rintro e w' ⟨rfl, ⟨nd, rfl⟩⟩; refine ⟨_, rfl, ?_⟩; have p5 : 0 ≤ (0 : Int) := (by omega); have q5 : 0 < a0.size := (by have : (0 : Int) < (a0.size : Int) := dq_; omega); have hx5 : ∀ h : 0 < a0.size, ((a0[0]'h).toNat : Int) = bt a0 0 := bt_at a0 0; clear p5; have qi5 : (0 < (a0.size : Int)) = True := eq_true (dq_); replace q5 := eq_true q5))
   go_ret
   exact ⟨by first | rfl | (simp; done) | (simp [*]; done), by repeat (first | exact Drawn0.refl _ | apply Drawn0.step)⟩
  ·rw [if_neg c4] at H
   exact absurd H (by simp)
 ·replace c3 := Bool.eq_false_iff.mpr c3
  subst c3
  have H1 : (some false) = some r := by rw [if_neg (show ¬ (false = true) by decide)] at H; exact H
  clear H
  have H := H1
  clear H1
  obtain rfl := Option.some.inj H
  go_enter Try.func88, Try.ntmps88
  go_wp2_with (first | ((with_reducible refine gate_callee (f := 122) rfl ?_); refine goesL_ (some 4) rfl rfl Try.func122 (by kernel_rfl) rfl #[.string a0] rfl (by (try simp only [List.map_toArray, List.map_cons, List.map_nil]); first | done | rfl | (simp only [List.length_drop, List.length_take]; rfl)) ?_; (with_reducible refine (sequentref01_Name.calls k a0 false _ A2.out).mono ?_); rintro e w' ⟨rfl, ⟨nd, rfl⟩⟩; refine ⟨_, rfl, ?_⟩))
  go_ret
  exact ⟨by first | rfl | (simp; done) | (simp [*]; done), by repeat (first | exact Drawn0.refl _ | apply Drawn0.step)⟩

end Go.Proofs.Ytgnklkmifcmlhaa.Q
-- written by a program of this session (wip/tools/myprint.py) out of the translation
namespace Go.Proofs.Ytgnklkmifcmlhaa.Q
open Go.RowKit Go.Proofs.YtgnklkmifcmlhaaW.PrintWords Go.Proofs.YtgnklkmifcmlhaaW.PrintLast Go.Proofs.YtgnklkmifcmlhaaW.PrintMore
attribute [local go_sem] max2_int min2_int max_two min_two max_three min_three max_four min_four   -- for this text's walks alone
set_option linter.unusedVariables false
set_option linter.unusedSimpArgs false

/-! ### sequentref04_TypeOp: function 89 -/
def sequentref04_TypeOp.l0 : Nat → ByteArray → Int → List (S124) → List (S92) → Option (Int × Bool)
 | 0, _, _, _, _ => none
 | k + 1, x1, x6, x810000, x810001 => if x6 < (x810000.length : Int) then (if 0 ≤ x6 then (if ((rd_T124 x810000 x6).f0).toList = x1.toList then (some ((rd_T124 x810000 x6).f1, true)) else (sequentref04_TypeOp.l0 k x1 (wrap64 (x6 + 1)) x810000 x810001)) else (none)) else (some (0, false))
def sequentref04_TypeOp.f (k : Nat) (l0_0 : List (S124)) (l0_1 : List (S92)) (a1 : ByteArray) : Option (Int × Bool) := sequentref04_TypeOp.l0 k a1 0 l0_0 l0_1
set_option maxHeartbeats 8000000 in
set_option maxRecDepth 100000 in
theorem sequentref04_TypeOp.calls (k : Nat) (A0_0 : Option Addr) (c0_0 : Nat) (l0_0 : List (S124)) (A0_1 : Option Addr) (c0_1 : Nat) (l0_1 : List (S92)) (a1 : ByteArray) (r1 : Int) (r2 : Bool) (w : World) (hr0_0 : Kd.C k124 w A0_0 l0_0.length l0_0) (hc0_0 : l0_0.length ≤ c0_0) (hr0_1 : Kd.C k92 w A0_1 l0_1.length l0_1) (hc0_1 : l0_1.length ≤ c0_1) (h : sequentref04_TypeOp.f k l0_0 l0_1 a1 = some (r1, r2)) :
 Calls Try.prog 89 #[.agg #[.slice A0_0 l0_0.length c0_0, .slice A0_1 l0_1.length c0_1], .string a1] w fun e w' => e = .returned (.tuple #[.int .i64 r1, .bool r2]) ∧ Below w.heap.size w w' := by
 have hu81 := Try.underlying81
 have HR0_0 := Aside0.mk hr0_0
 have HC0_0 := Aside0.mk hc0_0
 clear hr0_0 hc0_0
 have HR0_1 := Aside0.mk hr0_1
 have HC0_1 := Aside0.mk hc0_1
 clear hr0_1 hc0_1
 have HB := Aside0.mk (Below.refl w.heap.size w)
 have H : (sequentref04_TypeOp.l0 k a1 0 l0_0 l0_1) = some (r1, r2) := h
 clear h
 have H' := Aside0.mk H
 clear H
 go_enter Try.func89, Try.ntmps89
 go_wp2_with (first | ((with_reducible refine gate_dst (N := 2) rfl ?_); refine box_event ?hg (N := 2) ?hd (cs := #[.slice A0_0 l0_0.length c0_0, .slice A0_1 l0_1.length c0_1]) (t := 81) ?hr ?_; (case hd => rfl); (case hg => rfl); (case hr => first | (go_simp; done) | (go_simp; rfl)); intro gb809 hg w3 hbox hb; have n0_ := Aside0.mk (below_step bel_ hb); have n1_ := Aside0.mk (hbox); have n2_ := Aside0.mk ((by rw [hg]; exact (below_size bel_) : w.heap.size ≤ gb809)); have n3_ := Aside0.mk ((by rw [hg]; exact (below_size bel_) : w.heap.size ≤ gb809)); clear HB; have HB := n0_; have BK809 := n1_; have GW809 := n2_; have GE809 := n3_; clear n0_ n1_ n2_ n3_; clear hb hbox hg))
 go_loopg [6] k (fun kq v6 w' => ∃ (x6_1 : Int), v6 = .int .i64 x6_1 ∧ Aside0 (sequentref04_TypeOp.l0 kq a1 x6_1 l0_0 l0_1 = some (r1, r2)) ∧ Aside0 (kq ≤ k) ∧ Aside0 (w'.heap[gb809]? = some (.cells #[(.slice A0_0 l0_0.length c0_0), (.slice A0_1 l0_1.length c0_1)] 81 (0, 0))) ∧ Aside0 (Below w.heap.size w w'))
 case atStart => exact ⟨(0), (by first | rfl | (simp; done) | (simp [*]; done)), H', ⟨Nat.le_refl _⟩, ⟨bk_ BK809⟩, ⟨bel_⟩⟩
 case round =>
  clear H'
  try clear p2
  obtain ⟨x6_1, rfl, HA, HK1, BK809, HB⟩ := hrel
  cases gk with
  | zero => exact absurd HA.out (by simp [sequentref04_TypeOp.l0])
  | succ k1 =>
   have H := HA.out
   clear HA
   simp only [sequentref04_TypeOp.l0] at H
   by_cases c4 : x6_1 < (l0_0.length : Int)
   ·rw [if_pos c4] at H
    have c4b0 : decide (x6_1 < (l0_0.length : Int)) = true := decide_eq_true c4
    clear c4
    by_cases c5 : 0 ≤ x6_1
    ·rw [if_pos c5] at H
     have c5b0 : decide (0 ≤ x6_1) = true := decide_eq_true c5
     clear c5
     by_cases c6 : ((rd_T124 l0_0 x6_1).f0).toList = a1.toList
     ·rw [if_pos c6] at H
      have c6b0 : (((rd_T124 l0_0 x6_1).f0).toList == a1.toList) = true := beq_iff_eq.mpr c6
      have c6b1 : (((rd_T124 l0_0 x6_1).f0).toList != a1.toList) = false := bne_eq_false_iff_eq.mpr c6
      clear c6
      simp only [Option.some.injEq, Prod.mk.injEq] at H
      obtain ⟨rfl, rfl⟩ := H
      have hcz7_0 : wr.cell? ⟨gb809, 0, none⟩ = some (.slice A0_0 l0_0.length c0_0) := (blk_cell BK809.out 0).trans rfl
      have hcz7_1 : wr.cell? ⟨gb809, 1, none⟩ = some (.slice A0_1 l0_1.length c0_1) := (blk_cell BK809.out 1).trans rfl
      have hfz7_0 := blk_frozen BK809.out 0
      have hfz7_1 := blk_frozen BK809.out 1
      have p810 : 0 ≤ (x6_1 : Int) := dq_
      have q810 : x6_1 < (l0_0.length : Int) := dq_
      obtain ⟨ad810, e810, hx810_0, hx810_1⟩ := at_T124 HR0_0.out x6_1 p810 q810
      cases e810
      replace hx810_0 := pw_cell_below HB.out hx810_0
      replace hx810_1 := pw_cell_below HB.out hx810_1
      replace p810 := eq_true p810
      replace q810 := eq_true q810
      have p811 : 0 ≤ (x6_1 : Int) := dq_
      have q811 : x6_1 < (l0_0.length : Int) := dq_
      obtain ⟨ad811, e811, hx811_0, hx811_1⟩ := at_T124 HR0_0.out x6_1 p811 q811
      obtain rfl : ad810 = ad811 := (by injection e811)
      replace hx811_0 := pw_cell_below HB.out hx811_0
      replace hx811_1 := pw_cell_below HB.out hx811_1
      replace p811 := eq_true p811
      replace q811 := eq_true q811
      go_wp2
      go_ret2
      exact ⟨by first | rfl | (simp [errW_none, errW_some] <;> rfl) | (simp [*, errW_none, errW_some] <;> rfl), bel_⟩
     ·rw [if_neg c6] at H
      have c6b0 : (((rd_T124 l0_0 x6_1).f0).toList == a1.toList) = false := beq_eq_false_iff_ne.mpr c6
      have c6b1 : (((rd_T124 l0_0 x6_1).f0).toList != a1.toList) = true := bne_iff_ne.mpr c6
      have H' := Aside0.mk H
      clear H
      have hcz8_0 : wr.cell? ⟨gb809, 0, none⟩ = some (.slice A0_0 l0_0.length c0_0) := (blk_cell BK809.out 0).trans rfl
      have hcz8_1 : wr.cell? ⟨gb809, 1, none⟩ = some (.slice A0_1 l0_1.length c0_1) := (blk_cell BK809.out 1).trans rfl
      have hfz8_0 := blk_frozen BK809.out 0
      have hfz8_1 := blk_frozen BK809.out 1
      have p810 : 0 ≤ (x6_1 : Int) := dq_
      have q810 : x6_1 < (l0_0.length : Int) := dq_
      obtain ⟨ad810, e810, hx810_0, hx810_1⟩ := at_T124 HR0_0.out x6_1 p810 q810
      cases e810
      replace hx810_0 := pw_cell_below HB.out hx810_0
      replace hx810_1 := pw_cell_below HB.out hx810_1
      replace p810 := eq_true p810
      replace q810 := eq_true q810
      go_wp2
      go_roundg k1
      case measure => have := HK1.out; omega
      case rel => exact ⟨(wrap64 (x6_1 + 1)), (by first | rfl | (simp; done) | (simp [*]; done)), H', ⟨by have := HK1.out; omega⟩, ⟨bk_ BK809⟩, ⟨bel_⟩⟩
    ·rw [if_neg c5] at H
     exact absurd H (by simp)
   ·rw [if_neg c4] at H
    have c4b0 : decide (x6_1 < (l0_0.length : Int)) = false := decide_eq_false c4
    clear c4
    simp only [Option.some.injEq, Prod.mk.injEq] at H
    obtain ⟨rfl, rfl⟩ := H
    have hcz9_0 : wr.cell? ⟨gb809, 0, none⟩ = some (.slice A0_0 l0_0.length c0_0) := (blk_cell BK809.out 0).trans rfl
    have hcz9_1 : wr.cell? ⟨gb809, 1, none⟩ = some (.slice A0_1 l0_1.length c0_1) := (blk_cell BK809.out 1).trans rfl
    have hfz9_0 := blk_frozen BK809.out 0
    have hfz9_1 := blk_frozen BK809.out 1
    go_wp2
    go_ret2
    exact ⟨by first | rfl | (simp [errW_none, errW_some] <;> rfl) | (simp [*, errW_none, errW_some] <;> rfl), bel_⟩

end Go.Proofs.Ytgnklkmifcmlhaa.Q
-- written by a program of this session (wip/tools/myprint.py) out of the translation
namespace Go.Proofs.Ytgnklkmifcmlhaa.Q
open Go.RowKit Go.Proofs.YtgnklkmifcmlhaaW.PrintWords Go.Proofs.YtgnklkmifcmlhaaW.PrintLast Go.Proofs.YtgnklkmifcmlhaaW.PrintMore
attribute [local go_sem] max2_int min2_int max_two min_two max_three min_three max_four min_four   -- for this text's walks alone
set_option linter.unusedVariables false
set_option linter.unusedSimpArgs false

/-! ### sequentref04_OverType: function 93 -/
mutual
def sequentref04_OverType.j0 : Nat → Bool → List (S124) → List (S92) → Bool → ByteArray → List (S25) → Option (Bool)
 | 0, _, _, _, _, _, _ => none
 | k + 1, x25, x813000, x813001, x814000, x814001, x814002 => if x25 = true then (some false) else (sequentref04_OverType.l0 k 0 x813000 x813001 x814000 x814001 x814002)
def sequentref04_OverType.l0 : Nat → Int → List (S124) → List (S92) → Bool → ByteArray → List (S25) → Option (Bool)
 | 0, _, _, _, _, _, _ => none
 | k + 1, x7, x813000, x813001, x814000, x814001, x814002 => if x7 < (x814002.length : Int) then (if 0 ≤ x7 then ((sequentref04_OverType.f k x813000 x813001 ((rd_T25 x814002 x7).f0) ((rd_T25 x814002 x7).f1) ((rd_T25 x814002 x7).f2)).bind fun t817 => (if t817 = true then (sequentref04_OverType.l0 k (wrap64 (x7 + 1)) x813000 x813001 x814000 x814001 x814002) else (some false))) else (none)) else (some true)
def sequentref04_OverType.f : Nat → List (S124) → List (S92) → Bool → ByteArray → List (S25) → Option (Bool)
 | 0, _, _, _, _, _ => none
 | k + 1, l0_0, l0_1, a1_0, a1_1, l1_2 => if a1_0 = true then (some true) else ((sequentref04_TypeOp.f k l0_0 l0_1 a1_1).bind fun bt814 => (if bt814.2 = true then (sequentref04_OverType.j0 k (bt814.1 != (l1_2.length : Int)) l0_0 l0_1 a1_0 a1_1 l1_2) else (sequentref04_OverType.j0 k true l0_0 l0_1 a1_0 a1_1 l1_2)))
end
def sequentref04_OverType.T9 : Bool × List (List Nat × List Nat) := (true, [([], []), ([], []), ([1], [1]), ([], []), ([2, 3], [2, 3]), ([4], [4]), ([0, 5], [0, 5]), ([6], [6])])
def sequentref04_OverType.B9 : List Nat := [0, 0, 2, 0, 14, 30, 63, 127]
theorem sequentref04_OverType.tab9 : rtab .any (opsOf Try.f93 9) = sequentref04_OverType.T9 := by kernel_rfl
theorem sequentref04_OverType.bits9 : waitsOk sequentref04_OverType.T9.2 sequentref04_OverType.B9 = true := by kernel_rfl
set_option maxHeartbeats 8000000 in
set_option maxRecDepth 100000 in
theorem sequentref04_OverType.calls (k : Nat) : ∀ (A0_0 : Option Addr) (c0_0 : Nat) (l0_0 : List (S124)) (A0_1 : Option Addr) (c0_1 : Nat) (l0_1 : List (S92)) (a1_0 : Bool) (a1_1 : ByteArray) (A1_2 : Option Addr) (c1_2 : Nat) (l1_2 : List (S25)) (r : Bool) (w : World) (hr0_0 : Kd.C k124 w A0_0 l0_0.length l0_0) (hc0_0 : l0_0.length ≤ c0_0) (hr0_1 : Kd.C k92 w A0_1 l0_1.length l0_1) (hc0_1 : l0_1.length ≤ c0_1) (hr1_2 : Kd.C k25 w A1_2 l1_2.length l1_2) (hc1_2 : l1_2.length ≤ c1_2) (h : sequentref04_OverType.f k l0_0 l0_1 a1_0 a1_1 l1_2 = some r),
 Calls Try.prog 93 #[.agg #[.slice A0_0 l0_0.length c0_0, .slice A0_1 l0_1.length c0_1], .agg #[.bool a1_0, .string a1_1, .slice A1_2 l1_2.length c1_2]] w fun e w' => e = .returned (.bool r) ∧ Below w.heap.size w w' := by
 induction k using Nat.strongRecOn with
 | _ k ih =>
 intro A0_0 c0_0 l0_0 A0_1 c0_1 l0_1 a1_0 a1_1 A1_2 c1_2 l1_2 r w hr0_0 hc0_0 hr0_1 hc0_1 hr1_2 hc1_2 h
 cases k with
 | zero => exact absurd h (by simp [sequentref04_OverType.f])
 | succ k =>
 simp only [sequentref04_OverType.f] at h
 have hu81 := Try.underlying81
 have hu25 := Try.underlying25
 have HR0_0 := Aside0.mk hr0_0
 have HC0_0 := Aside0.mk hc0_0
 clear hr0_0 hc0_0
 have HR0_1 := Aside0.mk hr0_1
 have HC0_1 := Aside0.mk hc0_1
 clear hr0_1 hc0_1
 have HR1_2 := Aside0.mk hr1_2
 have HC1_2 := Aside0.mk hc1_2
 clear hr1_2 hc1_2
 have HB := Aside0.mk (Below.refl w.heap.size w)
 have H : (if a1_0 = true then (some true) else ((sequentref04_TypeOp.f k l0_0 l0_1 a1_1).bind fun bt814 => (if bt814.2 = true then (sequentref04_OverType.j0 k (bt814.1 != (l1_2.length : Int)) l0_0 l0_1 a1_0 a1_1 l1_2) else (sequentref04_OverType.j0 k true l0_0 l0_1 a1_0 a1_1 l1_2)))) = some r := h
 clear h
 by_cases c3 : a1_0 = true
 ·subst c3
  have H1 : (some true) = some r := by rw [if_pos rfl] at H; exact H
  clear H
  have H := H1
  clear H1
  obtain rfl := Option.some.inj H
  go_enter Try.func93, Try.ntmps93
  go_wp2_with (first | ((with_reducible refine gate_dst (N := 2) rfl ?_); (try (refine gate_guard (by rfl) ?_; dsimp only)); refine box_event ?hg (N := 2) ?hd (cs := #[.slice A0_0 l0_0.length c0_0, .slice A0_1 l0_1.length c0_1]) (t := 81) ?hr ?_; (case hd => rfl); (case hg => rfl); (case hr => first | (go_simp; done) | (go_simp; rfl)); intro gb812 hg w4 hbox hb; have n0_ := Aside0.mk (below_step bel_ hb); have n1_ := Aside0.mk (hbox); have n2_ := Aside0.mk ((by rw [hg]; exact (below_size bel_) : w.heap.size ≤ gb812)); have n3_ := Aside0.mk ((by rw [hg]; exact (below_size bel_) : w.heap.size ≤ gb812)); clear HB; have HB := n0_; have BK812 := n1_; have GW812 := n2_; have GE812 := n3_; clear n0_ n1_ n2_ n3_; clear hb hbox hg) | ((with_reducible refine gate_dst (N := 3) rfl ?_); (try (refine gate_guard (by rfl) ?_; dsimp only)); refine box_event ?hg (N := 3) ?hd (cs := #[.bool true, .string a1_1, .slice A1_2 l1_2.length c1_2]) (t := 25) ?hr ?_; (case hd => rfl); (case hg => rfl); (case hr => first | (go_simp; done) | (go_simp; rfl)); intro gb813 hg w5 hbox hb; have n0_ := Aside0.mk (blk_below (g := gb812) (o := .cells #[.slice A0_0 l0_0.length c0_0, .slice A0_1 l0_1.length c0_1] 81 (0, 0)) (bk_ BK812) hb); have n1_ := Aside0.mk (below_step bel_ hb); have n2_ := Aside0.mk (hbox); have n3_ := Aside0.mk ((by rw [hg]; exact (below_size bel_) : w.heap.size ≤ gb813)); have n4_ := Aside0.mk ((by rw [hg]; exact (below_size bel_) : w.heap.size ≤ gb813)); have n5_ := Aside0.mk ((by rw [hg]; exact Nat.ne_of_lt (blk_lt (g := gb812) (o := .cells #[.slice A0_0 l0_0.length c0_0, .slice A0_1 l0_1.length c0_1] 81 (0, 0)) (bk_ BK812)) : gb812 ≠ gb813)); have n6_ := Aside0.mk ((by rw [hg]; exact Nat.ne_of_gt (blk_lt (g := gb812) (o := .cells #[.slice A0_0 l0_0.length c0_0, .slice A0_1 l0_1.length c0_1] 81 (0, 0)) (bk_ BK812)) : gb813 ≠ gb812)); clear BK812; clear HB; have BK812 := n0_; have HB := n1_; have BK813 := n2_; have GW813 := n3_; have GE813 := n4_; have NB812_813 := n5_; have NB813_812 := n6_; clear n0_ n1_ n2_ n3_ n4_ n5_ n6_; clear hb hbox hg; have hnb6 := NB813_812.out; have hnc6 := NB812_813.out; have hcz7_0 : w5.cell? ⟨gb813, 0, none⟩ = some (.bool true) := (blk_cell BK813.out 0).trans rfl; have hcz7_1 : w5.cell? ⟨gb813, 1, none⟩ = some (.string a1_1) := (blk_cell BK813.out 1).trans rfl; have hcz7_2 : w5.cell? ⟨gb813, 2, none⟩ = some (.slice A1_2 l1_2.length c1_2) := (blk_cell BK813.out 2).trans rfl; have hfz7_0 := blk_frozen BK813.out 0; have hfz7_1 := blk_frozen BK813.out 1; have hfz7_2 := blk_frozen BK813.out 2))
  go_ret
  exact ⟨by first | rfl | (simp [errW_none, errW_some] <;> rfl) | (simp [*, errW_none, errW_some] <;> rfl), bel_⟩
 ·replace c3 := Bool.eq_false_iff.mpr c3
  subst c3
  have H1 : ((sequentref04_TypeOp.f k l0_0 l0_1 a1_1).bind fun bt814 => (if bt814.2 = true then (sequentref04_OverType.j0 k (bt814.1 != (l1_2.length : Int)) l0_0 l0_1 false a1_1 l1_2) else (sequentref04_OverType.j0 k true l0_0 l0_1 false a1_1 l1_2))) = some r := by rw [if_neg (show ¬ (false = true) by decide)] at H; exact H
  clear H
  have H := H1
  clear H1
  replace H := Option.bind_eq_some_iff.mp H
  obtain ⟨⟨t814, t815⟩, A80, H⟩ := H
  replace H : (if t815 = true then (sequentref04_OverType.j0 k (t814 != (l1_2.length : Int)) l0_0 l0_1 false a1_1 l1_2) else (sequentref04_OverType.j0 k true l0_0 l0_1 false a1_1 l1_2)) = some r := H
  have A8 := Aside0.mk A80
  clear A80
  have HC9 := Aside0.mk H
  clear H
  go_enter Try.func93, Try.ntmps93
  go_upto_region 4 with (first | ((with_reducible refine gate_dst (N := 2) rfl ?_); (try (refine gate_guard (by rfl) ?_; dsimp only)); refine box_event ?hg (N := 2) ?hd (cs := #[.slice A0_0 l0_0.length c0_0, .slice A0_1 l0_1.length c0_1]) (t := 81) ?hr ?_; (case hd => rfl); (case hg => rfl); (case hr => first | (go_simp; done) | (go_simp; rfl)); intro gb812 hg w10 hbox hb; have n0_ := Aside0.mk (below_step bel_ hb); have n1_ := Aside0.mk (hbox); have n2_ := Aside0.mk ((by rw [hg]; exact (below_size bel_) : w.heap.size ≤ gb812)); have n3_ := Aside0.mk ((by rw [hg]; exact (below_size bel_) : w.heap.size ≤ gb812)); clear HB; have HB := n0_; have BK812 := n1_; have GW812 := n2_; have GE812 := n3_; clear n0_ n1_ n2_ n3_; clear hb hbox hg) | ((with_reducible refine gate_dst (N := 3) rfl ?_); (try (refine gate_guard (by rfl) ?_; dsimp only)); refine box_event ?hg (N := 3) ?hd (cs := #[.bool false, .string a1_1, .slice A1_2 l1_2.length c1_2]) (t := 25) ?hr ?_; (case hd => rfl); (case hg => rfl); (case hr => first | (go_simp; done) | (go_simp; rfl)); intro gb813 hg w11 hbox hb; have n0_ := Aside0.mk (blk_below (g := gb812) (o := .cells #[.slice A0_0 l0_0.length c0_0, .slice A0_1 l0_1.length c0_1] 81 (0, 0)) (bk_ BK812) hb); have n1_ := Aside0.mk (below_step bel_ hb); have n2_ := Aside0.mk (hbox); have n3_ := Aside0.mk ((by rw [hg]; exact (below_size bel_) : w.heap.size ≤ gb813)); have n4_ := Aside0.mk ((by rw [hg]; exact (below_size bel_) : w.heap.size ≤ gb813)); have n5_ := Aside0.mk ((by rw [hg]; exact Nat.ne_of_lt (blk_lt (g := gb812) (o := .cells #[.slice A0_0 l0_0.length c0_0, .slice A0_1 l0_1.length c0_1] 81 (0, 0)) (bk_ BK812)) : gb812 ≠ gb813)); have n6_ := Aside0.mk ((by rw [hg]; exact Nat.ne_of_gt (blk_lt (g := gb812) (o := .cells #[.slice A0_0 l0_0.length c0_0, .slice A0_1 l0_1.length c0_1] 81 (0, 0)) (bk_ BK812)) : gb813 ≠ gb812)); clear BK812; clear HB; have BK812 := n0_; have HB := n1_; have BK813 := n2_; have GW813 := n3_; have GE813 := n4_; have NB812_813 := n5_; have NB813_812 := n6_; clear n0_ n1_ n2_ n3_ n4_ n5_ n6_; clear hb hbox hg; have hnb12 := NB813_812.out; have hnc12 := NB812_813.out; have hcz13_0 : w11.cell? ⟨gb813, 0, none⟩ = some (.bool false) := (blk_cell BK813.out 0).trans rfl; have hcz13_1 : w11.cell? ⟨gb813, 1, none⟩ = some (.string a1_1) := (blk_cell BK813.out 1).trans rfl; have hcz13_2 : w11.cell? ⟨gb813, 2, none⟩ = some (.slice A1_2 l1_2.length c1_2) := (blk_cell BK813.out 2).trans rfl; have hfz13_0 := blk_frozen BK813.out 0; have hfz13_1 := blk_frozen BK813.out 1; have hfz13_2 := blk_frozen BK813.out 2; have hcz14_0 : w11.cell? ⟨gb812, 0, none⟩ = some (.slice A0_0 l0_0.length c0_0) := (blk_cell BK812.out 0).trans rfl; have hcz14_1 : w11.cell? ⟨gb812, 1, none⟩ = some (.slice A0_1 l0_1.length c0_1) := (blk_cell BK812.out 1).trans rfl; have hfz14_0 := blk_frozen BK812.out 0; have hfz14_1 := blk_frozen BK812.out 1) | ((with_reducible refine gate_callee (f := 89) rfl ?_); refine goesL_ (some 14) rfl rfl Try.func89 (by kernel_rfl) rfl #[.agg #[.slice A0_0 l0_0.length c0_0, .slice A0_1 l0_1.length c0_1], .string a1_1] rfl (by (try simp only [List.map_toArray, List.map_cons, List.map_nil]); first | done | rfl | (simp only [List.length_drop, List.length_take]; rfl)) ?_; (with_reducible refine (sequentref04_TypeOp.calls k _ _ l0_0 _ _ l0_1 a1_1 t814 t815 _ ?side1 ?side2 ?side3 ?side4 A8.out).mono ?_); (case side1 => repeat (first | exact (Kd.C_below HR0_0.out HB.out) | (with_reducible refine Kd.C_alloc ?_ _) | (with_reducible refine Kd.C_drewN ?_ _) | (with_reducible refine Kd.C_drew ?_))); (case side2 => exact HC0_0.out); (case side3 => repeat (first | exact (Kd.C_below HR0_1.out HB.out) | (with_reducible refine Kd.C_alloc ?_ _) | (with_reducible refine Kd.C_drewN ?_ _) | (with_reducible refine Kd.C_drew ?_))); (case side4 => exact HC0_1.out); rintro e w15 ⟨rfl, hb⟩; refine ⟨_, rfl, ?_⟩; have n0_ := Aside0.mk (blk_below (g := gb812) (o := .cells #[.slice A0_0 l0_0.length c0_0, .slice A0_1 l0_1.length c0_1] 81 (0, 0)) (bk_ BK812) hb); have n1_ := Aside0.mk (blk_below (g := gb813) (o := .cells #[.bool false, .string a1_1, .slice A1_2 l1_2.length c1_2] 25 (0, 0)) (bk_ BK813) hb); have n2_ := Aside0.mk (below_step bel_ hb); clear BK812; clear BK813; clear HB; have BK812 := n0_; have BK813 := n1_; have HB := n2_; clear n0_ n1_ n2_; (try clear hb); (try clear hb2); (try clear hk); (try clear hi)))
  (try simp only [Act.put, List.setIfInBounds_toArray, List.set_cons_zero, List.set_cons_succ])
  go_cut [25] (fun v25 wc => ∃ (kq : Nat) (x25_8 : Bool), v25 = .bool x25_8 ∧ Aside0 (sequentref04_OverType.j0 kq x25_8 l0_0 l0_1 false a1_1 l1_2 = some r) ∧ Aside0 (kq ≤ k) ∧ Aside0 (wc.heap[gb812]? = some (.cells #[(.slice A0_0 l0_0.length c0_0), (.slice A0_1 l0_1.length c0_1)] 81 (0, 0))) ∧ Aside0 (wc.heap[gb813]? = some (.cells #[.bool false, .string a1_1, (.slice A1_2 l1_2.length c1_2)] 25 (0, 0))) ∧ Aside0 (Below w.heap.size w wc))
  case first =>
   have H := HC9.out
   clear HC9
   by_cases c16 : t815 = true
   ·subst c16
    have H1 : (sequentref04_OverType.j0 k (t814 != (l1_2.length : Int)) l0_0 l0_1 false a1_1 l1_2) = some r := by rw [if_pos rfl] at H; exact H
    clear H
    have H := H1
    clear H1
    have H' := Aside0.mk H
    clear H
    have hnb17 := NB813_812.out
    have hnc17 := NB812_813.out
    have hcz18_0 : w15.cell? ⟨gb813, 0, none⟩ = some (.bool false) := (blk_cell BK813.out 0).trans rfl
    have hcz18_1 : w15.cell? ⟨gb813, 1, none⟩ = some (.string a1_1) := (blk_cell BK813.out 1).trans rfl
    have hcz18_2 : w15.cell? ⟨gb813, 2, none⟩ = some (.slice A1_2 l1_2.length c1_2) := (blk_cell BK813.out 2).trans rfl
    have hfz18_0 := blk_frozen BK813.out 0
    have hfz18_1 := blk_frozen BK813.out 1
    have hfz18_2 := blk_frozen BK813.out 2
    go_wp2
    go_meet
    case rel => exact ⟨_, ((t814 != (l1_2.length : Int))), (by first | rfl | (simp; done) | (simp [*]; done)), H', ⟨by first | omega | exact Nat.le_refl _⟩, ⟨bk_ BK812⟩, ⟨bk_ BK813⟩, ⟨bel_⟩⟩
   ·replace c16 := Bool.eq_false_iff.mpr c16
    subst c16
    have H1 : (sequentref04_OverType.j0 k true l0_0 l0_1 false a1_1 l1_2) = some r := by rw [if_neg (show ¬ (false = true) by decide)] at H; exact H
    clear H
    have H := H1
    clear H1
    have H' := Aside0.mk H
    clear H
    go_wp2
    go_meet
    case rel => exact ⟨_, (true), (by first | rfl | (simp; done) | (simp [*]; done)), H', ⟨by first | omega | exact Nat.le_refl _⟩, ⟨bk_ BK812⟩, ⟨bk_ BK813⟩, ⟨bel_⟩⟩
  case rest =>
   clear HC9
   try clear c1
   try clear p2
   try clear c3
   try clear c6
   try clear c8
   try clear c9
   try clear c12
   try clear c16
   try clear c17
   try clear hcz13_0
   try clear hcz13_1
   try clear hcz13_2
   try clear hcz14_0
   try clear hcz14_1
   try clear hcz18_0
   try clear hcz18_1
   try clear hcz18_2
   try clear hcz7_0
   try clear hcz7_1
   try clear hcz7_2
   try clear hfz13_0
   try clear hfz13_1
   try clear hfz13_2
   try clear hfz14_0
   try clear hfz14_1
   try clear hfz18_0
   try clear hfz18_1
   try clear hfz18_2
   try clear hfz7_0
   try clear hfz7_1
   try clear hfz7_2
   obtain ⟨kq, x25_8, rfl, HA, HJ8, BK812, BK813, HB⟩ := hcut
   cases kq with
   | zero => exact absurd HA.out (by simp [sequentref04_OverType.j0])
   | succ kj8 =>
    have H := HA.out
    clear HA
    simp only [sequentref04_OverType.j0] at H
    by_cases c19 : x25_8 = true
    ·subst c19
     have H1 : (some false) = some r := by rw [if_pos rfl] at H; exact H
     clear H
     have H := H1
     clear H1
     obtain rfl := Option.some.inj H
     go_wp2
     go_ret
     exact ⟨by first | rfl | (simp [errW_none, errW_some] <;> rfl) | (simp [*, errW_none, errW_some] <;> rfl), bel_⟩
    ·replace c19 := Bool.eq_false_iff.mpr c19
     subst c19
     have H1 : (sequentref04_OverType.l0 kj8 0 l0_0 l0_1 false a1_1 l1_2) = some r := by rw [if_neg (show ¬ (false = true) by decide)] at H; exact H
     clear H
     have H := H1
     clear H1
     have H' := Aside0.mk H
     clear H
     go_wp2
     go_loopg [7] kj8 (fun kq v7 w' => ∃ (x7_2 : Int), v7 = .int .i64 x7_2 ∧ Aside0 (sequentref04_OverType.l0 kq x7_2 l0_0 l0_1 false a1_1 l1_2 = some r) ∧ Aside0 (kq ≤ kj8) ∧ Aside0 (w'.heap[gb812]? = some (.cells #[(.slice A0_0 l0_0.length c0_0), (.slice A0_1 l0_1.length c0_1)] 81 (0, 0))) ∧ Aside0 (w'.heap[gb813]? = some (.cells #[.bool false, .string a1_1, (.slice A1_2 l1_2.length c1_2)] 25 (0, 0))) ∧ Aside0 (Below w.heap.size w w'))
     case atStart => exact ⟨(0), (by first | rfl | (simp; done) | (simp [*]; done)), H', ⟨Nat.le_refl _⟩, ⟨bk_ BK812⟩, ⟨bk_ BK813⟩, ⟨bel_⟩⟩
     case round =>
      clear H'
      try clear c1
      try clear p2
      try clear c3
      try clear c6
      try clear c8
      try clear c9
      try clear c12
      try clear c16
      try clear c17
      try clear c19
      try clear hcz13_0
      try clear hcz13_1
      try clear hcz13_2
      try clear hcz14_0
      try clear hcz14_1
      try clear hcz18_0
      try clear hcz18_1
      try clear hcz18_2
      try clear hcz7_0
      try clear hcz7_1
      try clear hcz7_2
      try clear hfz13_0
      try clear hfz13_1
      try clear hfz13_2
      try clear hfz14_0
      try clear hfz14_1
      try clear hfz18_0
      try clear hfz18_1
      try clear hfz18_2
      try clear hfz7_0
      try clear hfz7_1
      try clear hfz7_2
      try clear p2
      obtain ⟨x7_2, rfl, HA, HK2, BK812, BK813, HB⟩ := hrel
      cases gk with
      | zero => exact absurd HA.out (by simp [sequentref04_OverType.l0])
      | succ k2 =>
       have H := HA.out
       clear HA
       simp only [sequentref04_OverType.l0] at H
       by_cases c20 : x7_2 < (l1_2.length : Int)
       ·rw [if_pos c20] at H
        have c20b0 : decide (x7_2 < (l1_2.length : Int)) = true := decide_eq_true c20
        clear c20
        by_cases c21 : 0 ≤ x7_2
        ·rw [if_pos c21] at H
         have c21b0 : decide (0 ≤ x7_2) = true := decide_eq_true c21
         clear c21
         replace H := Option.bind_eq_some_iff.mp H
         obtain ⟨t817, A220, H⟩ := H
         replace H : (if t817 = true then (sequentref04_OverType.l0 k2 (wrap64 (x7_2 + 1)) l0_0 l0_1 false a1_1 l1_2) else (some false)) = some r := H
         have A22 := Aside0.mk A220
         clear A220
         by_cases c23 : t817 = true
         ·subst c23
          have H1 : (sequentref04_OverType.l0 k2 (wrap64 (x7_2 + 1)) l0_0 l0_1 false a1_1 l1_2) = some r := by rw [if_pos rfl] at H; exact H
          clear H
          have H := H1
          clear H1
          have H' := Aside0.mk H
          clear H
          have hnb24 := NB813_812.out
          have hnc24 := NB812_813.out
          have hcz25_0 : wr.cell? ⟨gb813, 0, none⟩ = some (.bool false) := (blk_cell BK813.out 0).trans rfl
          have hcz25_1 : wr.cell? ⟨gb813, 1, none⟩ = some (.string a1_1) := (blk_cell BK813.out 1).trans rfl
          have hcz25_2 : wr.cell? ⟨gb813, 2, none⟩ = some (.slice A1_2 l1_2.length c1_2) := (blk_cell BK813.out 2).trans rfl
          have hfz25_0 := blk_frozen BK813.out 0
          have hfz25_1 := blk_frozen BK813.out 1
          have hfz25_2 := blk_frozen BK813.out 2
          try go_wp2
          have n0_ := Aside0.mk (blk_drew BK812.out)
          have n1_ := Aside0.mk (blk_drew BK813.out)
          have n2_ := Aside0.mk (below_drew1 HB.out)
          clear BK812
          clear BK813
          clear HB
          have BK812 := n0_
          have BK813 := n1_
          have HB := n2_
          clear n0_ n1_ n2_
          have p816 : 0 ≤ (x7_2 : Int) := dq_
          have q816 : x7_2 < (l1_2.length : Int) := dq_
          obtain ⟨ad816, A816_2, c816_2, e816, hx816_0, hx816_1, hx816_2, hl816_2, hi816_2⟩ := at_T25 HR1_2.out x7_2 p816 q816
          have hw816_2 := hx816_2
          have hw816_1 := hx816_1
          have hw816_0 := hx816_0
          cases e816
          replace hx816_0 := pw_cell_below HB.out hx816_0
          replace hx816_1 := pw_cell_below HB.out hx816_1
          replace hx816_2 := pw_cell_below HB.out hx816_2
          have HR816_2 := Aside0.mk hi816_2
          have HC816_2 := Aside0.mk hl816_2
          clear hi816_2 hl816_2
          replace p816 := eq_true p816
          replace q816 := eq_true q816
          refine start_ (n := 8) (S := fun w' => w'.cell? ⟨gb812, 0, none⟩ = some (.slice A0_0 l0_0.length c0_0) ∧ w'.cell? ⟨gb812, 1, none⟩ = some (.slice A0_1 l0_1.length c0_1) ∧ w'.cell? ⟨gb813, 0, none⟩ = some (.bool false) ∧ w'.cell? ⟨gb813, 1, none⟩ = some (.string a1_1) ∧ w'.cell? ⟨gb813, 2, none⟩ = some (.slice (some ad816) l1_2.length c1_2) ∧ w'.cell? (ad816.add ((x7_2).toNat * 3)) = some (.bool ((rd_T25 l1_2 x7_2).f0)) ∧ w'.cell? ⟨(ad816.add ((x7_2).toNat * 3)).block, (ad816.add ((x7_2).toNat * 3)).off + 1, none⟩ = some (.string ((rd_T25 l1_2 x7_2).f1)) ∧ w'.cell? ⟨(ad816.add ((x7_2).toNat * 3)).block, (ad816.add ((x7_2).toNat * 3)).off + 2, none⟩ = some (.slice A816_2 ((rd_T25 l1_2 x7_2).f2).length c816_2)) (ds := []) #[false, false, false, false, false, false, false, false] (by kernel_rfl) rfl rfl ⟨(blk_cell BK812.out 0).trans rfl, (blk_cell BK812.out 1).trans rfl, (blk_cell BK813.out 0).trans rfl, (blk_cell BK813.out 1).trans rfl, (blk_cell BK813.out 2).trans rfl, (pw_cell_below HB.out hw816_0), (pw_cell_below HB.out hw816_1), (pw_cell_below HB.out hw816_2)⟩ (fun hHeld => ?_); refine with_tabW sequentref04_OverType.tab9 sequentref04_OverType.bits9 (fun HT_ HW_ => ?_)
          generalize wr.drew = w26 at BK812 BK813 HB HR816_2 hx816_0 hx816_1 hx816_2 hHeld ⊢
          refine pure_ (i := 1) (N := some 34) (v := ?_) (a' := ?_) #[false, true, false, false, false, false, false, false] rfl rfl (any_of HT_.out (by kernel_rfl)) (fun _ _ _ h => h) (Or.inl ⟨by rfl, ?_⟩) ?_ ?_
          rotate_left
          ·intro w'
           go_simp
           with_reducible rfl
          rotate_left
          ·simp only [Act.put, List.setIfInBounds_toArray, List.set_cons_zero, List.set_cons_succ, i64_w, i32_w]
           rfl
          refine pure_ (i := 3) (N := some 36) (v := ?_) (a' := ?_) #[false, true, false, true, false, false, false, false] rfl rfl (any_of HT_.out (by kernel_rfl)) (fun _ _ _ h => h) (Or.inl ⟨by rfl, ?_⟩) ?_ ?_
          rotate_left
          ·intro w'
           go_simp
           with_reducible rfl
          rotate_left
          ·simp only [Act.put, List.setIfInBounds_toArray, List.set_cons_zero, List.set_cons_succ, i64_w, i32_w]
           rfl
          refine take_ (i := 0) (N := some 33) (v := ?_) (a' := ?_) #[true, true, false, true, false, false, false, false] rfl rfl (take_ofW HT_.out HW_.out (by kernel_rfl)) (fun _ _ _ h => h) (Or.inl ⟨by rfl, ?_⟩) hHeld ?_ ?_
          rotate_left
          ·rintro w' ⟨s0, s1, s2, s3, s4, s5, s6, s7⟩
           go_simp
           with_reducible rfl
          rotate_left
          ·simp only [Act.put, List.setIfInBounds_toArray, List.set_cons_zero, List.set_cons_succ, i64_w, i32_w]
           rfl
          refine take_ (i := 2) (N := some 35) (v := ?_) (a' := ?_) #[true, true, true, true, false, false, false, false] rfl rfl (take_ofW HT_.out HW_.out (by kernel_rfl)) (fun _ _ _ h => h) (Or.inl ⟨by rfl, ?_⟩) hHeld ?_ ?_
          rotate_left
          ·rintro w' ⟨s0, s1, s2, s3, s4, s5, s6, s7⟩
           go_simp
           with_reducible rfl
          rotate_left
          ·simp only [Act.put, List.setIfInBounds_toArray, List.set_cons_zero, List.set_cons_succ, i64_w, i32_w]
           rfl
          refine pure_ (i := 4) (N := some 37) (v := ?_) (a' := ?_) #[true, true, true, true, true, false, false, false] rfl rfl (any_of HT_.out (by kernel_rfl)) (fun _ _ _ h => h) (Or.inl ⟨by rfl, ?_⟩) ?_ ?_
          rotate_left
          ·intro w'
           go_simp
           with_reducible rfl
          rotate_left
          ·simp only [Act.put, List.setIfInBounds_toArray, List.set_cons_zero, List.set_cons_succ, i64_w, i32_w]
           rfl
          refine take_ (i := 5) (N := some 38) (v := ?_) (a' := ?_) #[true, true, true, true, true, true, false, false] rfl rfl (take_ofW HT_.out HW_.out (by kernel_rfl)) (fun _ _ _ h => h) (Or.inl ⟨by rfl, ?_⟩) hHeld ?_ ?_
          rotate_left
          ·rintro w' ⟨s0, s1, s2, s3, s4, s5, s6, s7⟩
           go_simp
           with_reducible rfl
          rotate_left
          ·simp only [Act.put, List.setIfInBounds_toArray, List.set_cons_zero, List.set_cons_succ, i64_w, i32_w]
           rfl
          refine one_ (i := 6) (N := some 39) #[true, true, true, true, true, true, true, false] rfl rfl (one_of HT_.out (by kernel_rfl)) (by decide) (fun K hK => ?_)
          refine goes_ Try.func93 (by kernel_rfl) rfl #[.agg #[.slice A0_0 l0_0.length c0_0, .slice A0_1 l0_1.length c0_1], .agg #[.bool ((rd_T25 l1_2 x7_2).f0), .string ((rd_T25 l1_2 x7_2).f1), .slice A816_2 ((rd_T25 l1_2 x7_2).f2).length c816_2]] (by rfl) rfl rfl (by (try simp only [List.map_toArray, List.map_cons, List.map_nil]); first | done | rfl | (simp only [List.length_drop, List.length_take]; rfl)) ?_
          with_reducible refine (ih k2 (by have := HJ8.out; have := HK2.out; omega) _ _ l0_0 _ _ l0_1 ((rd_T25 l1_2 x7_2).f0) ((rd_T25 l1_2 x7_2).f1) _ _ ((rd_T25 l1_2 x7_2).f2) true _ ?side1 ?side2 ?side3 ?side4 ?side5 ?side6 A22.out).mono ?_
          (case side1 => repeat (first | exact (Kd.C_below HR0_0.out HB.out) | (with_reducible refine Kd.C_alloc ?_ _) | (with_reducible refine Kd.C_drewN ?_ _) | (with_reducible refine Kd.C_drew ?_)))
          (case side2 => exact HC0_0.out)
          (case side3 => repeat (first | exact (Kd.C_below HR0_1.out HB.out) | (with_reducible refine Kd.C_alloc ?_ _) | (with_reducible refine Kd.C_drewN ?_ _) | (with_reducible refine Kd.C_drew ?_)))
          (case side4 => exact HC0_1.out)
          (case side5 => repeat (first | exact (Kd.C_below HR816_2.out HB.out) | (with_reducible refine Kd.C_alloc ?_ _) | (with_reducible refine Kd.C_drewN ?_ _) | (with_reducible refine Kd.C_drew ?_)))
          (case side6 => exact HC816_2.out)
          rintro e w27 ⟨rfl, hb⟩
          refine ⟨_, rfl, ?_⟩
          have n0_ := Aside0.mk (blk_below (g := gb812) (o := .cells #[.slice A0_0 l0_0.length c0_0, .slice A0_1 l0_1.length c0_1] 81 (0, 0)) (bk_ BK812) hb)
          have n1_ := Aside0.mk (blk_below (g := gb813) (o := .cells #[.bool false, .string a1_1, .slice (some ad816) l1_2.length c1_2] 25 (0, 0)) (bk_ BK813) hb)
          have n2_ := Aside0.mk (below_step bel_ hb)
          clear BK812
          clear BK813
          clear HB
          have BK812 := n0_
          have BK813 := n1_
          have HB := n2_
          clear n0_ n1_ n2_
          (try clear hb)
          (try clear hb2)
          (try clear hk)
          (try clear hi)
          refine hK.out _ _ ⟨(blk_cell BK812.out 0).trans rfl, (blk_cell BK812.out 1).trans rfl, (blk_cell BK813.out 0).trans rfl, (blk_cell BK813.out 1).trans rfl, (blk_cell BK813.out 2).trans rfl, (pw_cell_below HB.out hw816_0), (pw_cell_below HB.out hw816_1), (pw_cell_below HB.out hw816_2)⟩ (fun hHeld => ?_)
          clear hK K
          refine norm_ (a' := ?_) ?_ ?_
          rotate_left
          ·show Act.put _ (some 39) _ = _
           simp only [Act.put, List.setIfInBounds_toArray, List.set_cons_zero, List.set_cons_succ, i64_w, i32_w]
           rfl
          refine pure_ (i := 7) (N := some 40) (v := ?_) (a' := ?_) #[true, true, true, true, true, true, true, true] rfl rfl (any_of HT_.out (by kernel_rfl)) (fun _ _ _ h => h) (Or.inl ⟨by rfl, ?_⟩) ?_ ?_
          rotate_left
          ·intro w'
           go_simp
           with_reducible rfl
          rotate_left
          ·simp only [Act.put, List.setIfInBounds_toArray, List.set_cons_zero, List.set_cons_succ, i64_w, i32_w]
           rfl
          refine done_ (done_of HT_.out (by kernel_rfl)) ?_
          try go_wp2
          go_roundg k2
          case measure => have := HJ8.out; have := HK2.out; omega
          case rel => exact ⟨(wrap64 (x7_2 + 1)), (by first | rfl | (simp; done) | (simp [*]; done)), H', ⟨by have := HJ8.out; have := HK2.out; omega⟩, ⟨bk_ BK812⟩, ⟨bk_ BK813⟩, ⟨bel_⟩⟩
         ·replace c23 := Bool.eq_false_iff.mpr c23
          subst c23
          have H1 : (some false) = some r := by rw [if_neg (show ¬ (false = true) by decide)] at H; exact H
          clear H
          have H := H1
          clear H1
          obtain rfl := Option.some.inj H
          have hnb28 := NB813_812.out
          have hnc28 := NB812_813.out
          have hcz29_0 : wr.cell? ⟨gb813, 0, none⟩ = some (.bool false) := (blk_cell BK813.out 0).trans rfl
          have hcz29_1 : wr.cell? ⟨gb813, 1, none⟩ = some (.string a1_1) := (blk_cell BK813.out 1).trans rfl
          have hcz29_2 : wr.cell? ⟨gb813, 2, none⟩ = some (.slice A1_2 l1_2.length c1_2) := (blk_cell BK813.out 2).trans rfl
          have hfz29_0 := blk_frozen BK813.out 0
          have hfz29_1 := blk_frozen BK813.out 1
          have hfz29_2 := blk_frozen BK813.out 2
          try go_wp2
          have n0_ := Aside0.mk (blk_drew BK812.out)
          have n1_ := Aside0.mk (blk_drew BK813.out)
          have n2_ := Aside0.mk (below_drew1 HB.out)
          clear BK812
          clear BK813
          clear HB
          have BK812 := n0_
          have BK813 := n1_
          have HB := n2_
          clear n0_ n1_ n2_
          have p816 : 0 ≤ (x7_2 : Int) := dq_
          have q816 : x7_2 < (l1_2.length : Int) := dq_
          obtain ⟨ad816, A816_2, c816_2, e816, hx816_0, hx816_1, hx816_2, hl816_2, hi816_2⟩ := at_T25 HR1_2.out x7_2 p816 q816
          have hw816_2 := hx816_2
          have hw816_1 := hx816_1
          have hw816_0 := hx816_0
          cases e816
          replace hx816_0 := pw_cell_below HB.out hx816_0
          replace hx816_1 := pw_cell_below HB.out hx816_1
          replace hx816_2 := pw_cell_below HB.out hx816_2
          have HR816_2 := Aside0.mk hi816_2
          have HC816_2 := Aside0.mk hl816_2
          clear hi816_2 hl816_2
          replace p816 := eq_true p816
          replace q816 := eq_true q816
          refine start_ (n := 8) (S := fun w' => w'.cell? ⟨gb812, 0, none⟩ = some (.slice A0_0 l0_0.length c0_0) ∧ w'.cell? ⟨gb812, 1, none⟩ = some (.slice A0_1 l0_1.length c0_1) ∧ w'.cell? ⟨gb813, 0, none⟩ = some (.bool false) ∧ w'.cell? ⟨gb813, 1, none⟩ = some (.string a1_1) ∧ w'.cell? ⟨gb813, 2, none⟩ = some (.slice (some ad816) l1_2.length c1_2) ∧ w'.cell? (ad816.add ((x7_2).toNat * 3)) = some (.bool ((rd_T25 l1_2 x7_2).f0)) ∧ w'.cell? ⟨(ad816.add ((x7_2).toNat * 3)).block, (ad816.add ((x7_2).toNat * 3)).off + 1, none⟩ = some (.string ((rd_T25 l1_2 x7_2).f1)) ∧ w'.cell? ⟨(ad816.add ((x7_2).toNat * 3)).block, (ad816.add ((x7_2).toNat * 3)).off + 2, none⟩ = some (.slice A816_2 ((rd_T25 l1_2 x7_2).f2).length c816_2)) (ds := []) #[false, false, false, false, false, false, false, false] (by kernel_rfl) rfl rfl ⟨(blk_cell BK812.out 0).trans rfl, (blk_cell BK812.out 1).trans rfl, (blk_cell BK813.out 0).trans rfl, (blk_cell BK813.out 1).trans rfl, (blk_cell BK813.out 2).trans rfl, (pw_cell_below HB.out hw816_0), (pw_cell_below HB.out hw816_1), (pw_cell_below HB.out hw816_2)⟩ (fun hHeld => ?_); refine with_tabW sequentref04_OverType.tab9 sequentref04_OverType.bits9 (fun HT_ HW_ => ?_)
          generalize wr.drew = w30 at BK812 BK813 HB HR816_2 hx816_0 hx816_1 hx816_2 hHeld ⊢
          refine pure_ (i := 1) (N := some 34) (v := ?_) (a' := ?_) #[false, true, false, false, false, false, false, false] rfl rfl (any_of HT_.out (by kernel_rfl)) (fun _ _ _ h => h) (Or.inl ⟨by rfl, ?_⟩) ?_ ?_
          rotate_left
          ·intro w'
           go_simp
           with_reducible rfl
          rotate_left
          ·simp only [Act.put, List.setIfInBounds_toArray, List.set_cons_zero, List.set_cons_succ, i64_w, i32_w]
           rfl
          refine pure_ (i := 3) (N := some 36) (v := ?_) (a' := ?_) #[false, true, false, true, false, false, false, false] rfl rfl (any_of HT_.out (by kernel_rfl)) (fun _ _ _ h => h) (Or.inl ⟨by rfl, ?_⟩) ?_ ?_
          rotate_left
          ·intro w'
           go_simp
           with_reducible rfl
          rotate_left
          ·simp only [Act.put, List.setIfInBounds_toArray, List.set_cons_zero, List.set_cons_succ, i64_w, i32_w]
           rfl
          refine take_ (i := 0) (N := some 33) (v := ?_) (a' := ?_) #[true, true, false, true, false, false, false, false] rfl rfl (take_ofW HT_.out HW_.out (by kernel_rfl)) (fun _ _ _ h => h) (Or.inl ⟨by rfl, ?_⟩) hHeld ?_ ?_
          rotate_left
          ·rintro w' ⟨s0, s1, s2, s3, s4, s5, s6, s7⟩
           go_simp
           with_reducible rfl
          rotate_left
          ·simp only [Act.put, List.setIfInBounds_toArray, List.set_cons_zero, List.set_cons_succ, i64_w, i32_w]
           rfl
          refine take_ (i := 2) (N := some 35) (v := ?_) (a' := ?_) #[true, true, true, true, false, false, false, false] rfl rfl (take_ofW HT_.out HW_.out (by kernel_rfl)) (fun _ _ _ h => h) (Or.inl ⟨by rfl, ?_⟩) hHeld ?_ ?_
          rotate_left
          ·rintro w' ⟨s0, s1, s2, s3, s4, s5, s6, s7⟩
           go_simp
           with_reducible rfl
          rotate_left
          ·simp only [Act.put, List.setIfInBounds_toArray, List.set_cons_zero, List.set_cons_succ, i64_w, i32_w]
           rfl
          refine pure_ (i := 4) (N := some 37) (v := ?_) (a' := ?_) #[true, true, true, true, true, false, false, false] rfl rfl (any_of HT_.out (by kernel_rfl)) (fun _ _ _ h => h) (Or.inl ⟨by rfl, ?_⟩) ?_ ?_
          rotate_left
          ·intro w'
           go_simp
           with_reducible rfl
          rotate_left
          ·simp only [Act.put, List.setIfInBounds_toArray, List.set_cons_zero, List.set_cons_succ, i64_w, i32_w]
           rfl
          refine take_ (i := 5) (N := some 38) (v := ?_) (a' := ?_) #[true, true, true, true, true, true, false, false] rfl rfl (take_ofW HT_.out HW_.out (by kernel_rfl)) (fun _ _ _ h => h) (Or.inl ⟨by rfl, ?_⟩) hHeld ?_ ?_
          rotate_left
          ·rintro w' ⟨s0, s1, s2, s3, s4, s5, s6, s7⟩
           go_simp
           with_reducible rfl
          rotate_left
          ·simp only [Act.put, List.setIfInBounds_toArray, List.set_cons_zero, List.set_cons_succ, i64_w, i32_w]
           rfl
          refine one_ (i := 6) (N := some 39) #[true, true, true, true, true, true, true, false] rfl rfl (one_of HT_.out (by kernel_rfl)) (by decide) (fun K hK => ?_)
          refine goes_ Try.func93 (by kernel_rfl) rfl #[.agg #[.slice A0_0 l0_0.length c0_0, .slice A0_1 l0_1.length c0_1], .agg #[.bool ((rd_T25 l1_2 x7_2).f0), .string ((rd_T25 l1_2 x7_2).f1), .slice A816_2 ((rd_T25 l1_2 x7_2).f2).length c816_2]] (by rfl) rfl rfl (by (try simp only [List.map_toArray, List.map_cons, List.map_nil]); first | done | rfl | (simp only [List.length_drop, List.length_take]; rfl)) ?_
          with_reducible refine (ih k2 (by have := HJ8.out; have := HK2.out; omega) _ _ l0_0 _ _ l0_1 ((rd_T25 l1_2 x7_2).f0) ((rd_T25 l1_2 x7_2).f1) _ _ ((rd_T25 l1_2 x7_2).f2) false _ ?side1 ?side2 ?side3 ?side4 ?side5 ?side6 A22.out).mono ?_
          (case side1 => repeat (first | exact (Kd.C_below HR0_0.out HB.out) | (with_reducible refine Kd.C_alloc ?_ _) | (with_reducible refine Kd.C_drewN ?_ _) | (with_reducible refine Kd.C_drew ?_)))
          (case side2 => exact HC0_0.out)
          (case side3 => repeat (first | exact (Kd.C_below HR0_1.out HB.out) | (with_reducible refine Kd.C_alloc ?_ _) | (with_reducible refine Kd.C_drewN ?_ _) | (with_reducible refine Kd.C_drew ?_)))
          (case side4 => exact HC0_1.out)
          (case side5 => repeat (first | exact (Kd.C_below HR816_2.out HB.out) | (with_reducible refine Kd.C_alloc ?_ _) | (with_reducible refine Kd.C_drewN ?_ _) | (with_reducible refine Kd.C_drew ?_)))
          (case side6 => exact HC816_2.out)
          rintro e w31 ⟨rfl, hb⟩
          refine ⟨_, rfl, ?_⟩
          have n0_ := Aside0.mk (blk_below (g := gb812) (o := .cells #[.slice A0_0 l0_0.length c0_0, .slice A0_1 l0_1.length c0_1] 81 (0, 0)) (bk_ BK812) hb)
          have n1_ := Aside0.mk (blk_below (g := gb813) (o := .cells #[.bool false, .string a1_1, .slice (some ad816) l1_2.length c1_2] 25 (0, 0)) (bk_ BK813) hb)
          have n2_ := Aside0.mk (below_step bel_ hb)
          clear BK812
          clear BK813
          clear HB
          have BK812 := n0_
          have BK813 := n1_
          have HB := n2_
          clear n0_ n1_ n2_
          (try clear hb)
          (try clear hb2)
          (try clear hk)
          (try clear hi)
          refine hK.out _ _ ⟨(blk_cell BK812.out 0).trans rfl, (blk_cell BK812.out 1).trans rfl, (blk_cell BK813.out 0).trans rfl, (blk_cell BK813.out 1).trans rfl, (blk_cell BK813.out 2).trans rfl, (pw_cell_below HB.out hw816_0), (pw_cell_below HB.out hw816_1), (pw_cell_below HB.out hw816_2)⟩ (fun hHeld => ?_)
          clear hK K
          refine norm_ (a' := ?_) ?_ ?_
          rotate_left
          ·show Act.put _ (some 39) _ = _
           simp only [Act.put, List.setIfInBounds_toArray, List.set_cons_zero, List.set_cons_succ, i64_w, i32_w]
           rfl
          refine pure_ (i := 7) (N := some 40) (v := ?_) (a' := ?_) #[true, true, true, true, true, true, true, true] rfl rfl (any_of HT_.out (by kernel_rfl)) (fun _ _ _ h => h) (Or.inl ⟨by rfl, ?_⟩) ?_ ?_
          rotate_left
          ·intro w'
           go_simp
           with_reducible rfl
          rotate_left
          ·simp only [Act.put, List.setIfInBounds_toArray, List.set_cons_zero, List.set_cons_succ, i64_w, i32_w]
           rfl
          refine done_ (done_of HT_.out (by kernel_rfl)) ?_
          try go_wp2
          go_ret
          exact ⟨by first | rfl | (simp [errW_none, errW_some] <;> rfl) | (simp [*, errW_none, errW_some] <;> rfl), bel_⟩
        ·rw [if_neg c21] at H
         exact absurd H (by simp)
       ·rw [if_neg c20] at H
        have c20b0 : decide (x7_2 < (l1_2.length : Int)) = false := decide_eq_false c20
        clear c20
        obtain rfl := Option.some.inj H
        have hnb32 := NB813_812.out
        have hnc32 := NB812_813.out
        have hcz33_0 : wr.cell? ⟨gb813, 0, none⟩ = some (.bool false) := (blk_cell BK813.out 0).trans rfl
        have hcz33_1 : wr.cell? ⟨gb813, 1, none⟩ = some (.string a1_1) := (blk_cell BK813.out 1).trans rfl
        have hcz33_2 : wr.cell? ⟨gb813, 2, none⟩ = some (.slice A1_2 l1_2.length c1_2) := (blk_cell BK813.out 2).trans rfl
        have hfz33_0 := blk_frozen BK813.out 0
        have hfz33_1 := blk_frozen BK813.out 1
        have hfz33_2 := blk_frozen BK813.out 2
        go_wp2
        go_ret
        exact ⟨by first | rfl | (simp [errW_none, errW_some] <;> rfl) | (simp [*, errW_none, errW_some] <;> rfl), bel_⟩

end Go.Proofs.Ytgnklkmifcmlhaa.Q
-- written by a program of this session (wip/tools/myprint.py) out of the translation
namespace Go.Proofs.Ytgnklkmifcmlhaa.Q
open Go.RowKit Go.Proofs.YtgnklkmifcmlhaaW.PrintWords Go.Proofs.YtgnklkmifcmlhaaW.PrintLast Go.Proofs.YtgnklkmifcmlhaaW.PrintMore
attribute [local go_sem] max2_int min2_int max_two min_two max_three min_three max_four min_four   -- for this text's walks alone
set_option linter.unusedVariables false
set_option linter.unusedSimpArgs false

/-! ### sequentref04_Twin: function 50 -/
def sequentref04_Twin.l0 : Nat → Int → List (S124) → List (S92) → List (S124) → List (S92) → Option ((List (S124)) × (List (S92)))
 | 0, _, _, _, _, _ => none
 | k + 1, x4, x788000, x788001, x790000, x790001 => if x4 < (x788001.length : Int) then (if 0 ≤ x4 then ((sequentref01_Twin.f k ((rd_T92 x788001 x4).f1.f0) ((rd_T92 x788001 x4).f1.f1) ((rd_T92 x788001 x4).f1.f2)).bind fun bt795 => (if x790001.length < 2199023255552 then (sequentref04_Twin.l0 k (wrap64 (x4 + 1)) x788000 x788001 x790000 (x790001 ++ [(⟨(rd_T92 x788001 x4).f0, (⟨bt795.1, bt795.2.1, bt795.2.2⟩ : S25)⟩ : S92)])) else (none))) else (none)) else (some (x790000, x790001))
def sequentref04_Twin.f (k : Nat) (l0_0 : List (S124)) (l0_1 : List (S92)) : Option ((List (S124)) × (List (S92))) := if ([] : List (S124)).length + l0_0.length < 5864062014805 then (sequentref04_Twin.l0 k 0 l0_0 l0_1 (([] : List (S124)) ++ l0_0) ([] : List (S92))) else (none)
def sequentref04_Twin.T6 : Bool × List (List Nat × List Nat) := (true, [([], []), ([0], [0]), ([], []), ([2], [2]), ([], []), ([3, 4], [3, 4]), ([5], [5]), ([6], [6]), ([], []), ([8], [8]), ([], []), ([9, 10], [9, 10]), ([11], [11]), ([12], [12]), ([13], [13]), ([7, 14], [7, 14]), ([15], [15]), ([1, 16, 14], [1, 16]), ([0, 1, 2, 3, 4, 5, 6, 7, 8, 9, 10, 11, 12, 13, 14, 15, 16, 17], []), ([18, 17, 17, 0, 1, 2, 3, 4, 5, 6, 7, 8, 9, 10, 11, 12, 13, 14, 15, 16, 17], [17, 18])])
def sequentref04_Twin.B6 : List Nat := [0, 1, 0, 4, 0, 28, 60, 124, 0, 256, 0, 1792, 3840, 7936, 16128, 32764, 65532, 131071, 262143, 524287]
theorem sequentref04_Twin.tab6 : rtab .any (opsOf Try.f50 6) = sequentref04_Twin.T6 := by kernel_rfl
theorem sequentref04_Twin.bits6 : waitsOk sequentref04_Twin.T6.2 sequentref04_Twin.B6 = true := by kernel_rfl
set_option maxHeartbeats 8000000 in
set_option maxRecDepth 100000 in
theorem sequentref04_Twin.calls (k : Nat) (A0_0 : Option Addr) (c0_0 : Nat) (l0_0 : List (S124)) (A0_1 : Option Addr) (c0_1 : Nat) (l0_1 : List (S92)) (r1 : List (S124)) (r2 : List (S92)) (w : World) (hr0_0 : Kd.C k124 w A0_0 l0_0.length l0_0) (hc0_0 : l0_0.length ≤ c0_0) (hr0_1 : Kd.C k92 w A0_1 l0_1.length l0_1) (hc0_1 : l0_1.length ≤ c0_1) (h : sequentref04_Twin.f k l0_0 l0_1 = some (r1, r2)) :
 Calls Try.prog 50 #[.agg #[.slice A0_0 l0_0.length c0_0, .slice A0_1 l0_1.length c0_1]] w fun e w' => ∃ v0_ v1_ : Value, e = .returned (.agg #[v0_, v1_]) ∧ Kd.R k124 124 w' w.heap.size (fun _ => True) v0_ r1 ∧ Kd.R k92 92 w' w.heap.size (fun _ => True) v1_ r2 ∧ Below w.heap.size w w' := by
 have hu81 := Try.underlying81
 have hu25 := Try.underlying25
 have hu92 := Try.underlying92
 have HR0_0 := Aside0.mk hr0_0
 have HC0_0 := Aside0.mk hc0_0
 clear hr0_0 hc0_0
 have HR0_1 := Aside0.mk hr0_1
 have HC0_1 := Aside0.mk hc0_1
 clear hr0_1 hc0_1
 have HB := Aside0.mk (Below.refl w.heap.size w)
 have H : (if ([] : List (S124)).length + l0_0.length < 5864062014805 then (sequentref04_Twin.l0 k 0 l0_0 l0_1 (([] : List (S124)) ++ l0_0) ([] : List (S92))) else (none)) = some (r1, r2) := h
 clear h
 by_cases c2 : ([] : List (S124)).length + l0_0.length < 5864062014805
 ·rw [if_pos c2] at H
  have LMc2 := Aside0.mk c2
  clear c2
  obtain ⟨y790, hy790⟩ : ∃ y_ : List (S124), y_ = (([] : List (S124)) ++ l0_0) := ⟨_, rfl⟩
  replace H : (sequentref04_Twin.l0 k 0 l0_0 l0_1 y790 ([] : List (S92))) = some (r1, r2) := by first | (rw [hy790]; with_reducible exact H) | (have H2_ := (Option.bind_some _ _).symm.trans H; rw [hy790]; with_reducible exact H2_) | (have H2_ := (Option.bind_some _ _).symm.trans H; with_reducible exact H2_) | with_reducible exact H | (rw [hy790]; exact H) | exact H
  have Ny790 := Aside0.mk hy790
  clear hy790
  have H' := Aside0.mk H
  clear H
  go_enter Try.func50, Try.ntmps50
  go_wp2_with (first | ((with_reducible refine gate_dst (N := 1) rfl ?_); refine box_event ?hg (N := 1) ?hd (cs := #[.slice A0_0 l0_0.length c0_0, .slice A0_1 l0_1.length c0_1]) (t := 81) ?hr ?_; (case hd => rfl); (case hg => rfl); (case hr => first | (go_simp; done) | (go_simp; rfl)); intro gb787 hg w3 hbox hb; have n0_ := Aside0.mk (below_step bel_ hb); have n1_ := Aside0.mk (hbox); have n2_ := Aside0.mk ((by rw [hg]; exact (below_size bel_) : w.heap.size ≤ gb787)); have n3_ := Aside0.mk ((by rw [hg]; exact (below_size bel_) : w.heap.size ≤ gb787)); clear HB; have HB := n0_; have BK787 := n1_; have GW787 := n2_; have GE787 := n3_; clear n0_ n1_ n2_ n3_; clear hb hbox hg) | ((with_reducible refine gate_dst (N := 2) rfl ?_); refine box_event ?hg (N := 2) ?hd (cs := #[.slice none 0 0, .slice none 0 0]) (t := 81) ?hr ?_; (case hd => rfl); (case hg => rfl); (case hr => first | (go_simp; done) | (go_simp; rfl)); intro gb788 hg w4 hbox hb; have n0_ := Aside0.mk (blk_below (g := gb787) (o := .cells #[.slice A0_0 l0_0.length c0_0, .slice A0_1 l0_1.length c0_1] 81 (0, 0)) (bk_ BK787) hb); have n1_ := Aside0.mk (below_step bel_ hb); have n2_ := Aside0.mk (hbox); have n3_ := Aside0.mk ((by rw [hg]; exact (below_size bel_) : w.heap.size ≤ gb788)); have n4_ := Aside0.mk ((by rw [hg]; exact (below_size bel_) : w.heap.size ≤ gb788)); have n5_ := Aside0.mk ((by rw [hg]; exact Nat.ne_of_lt (blk_lt (g := gb787) (o := .cells #[.slice A0_0 l0_0.length c0_0, .slice A0_1 l0_1.length c0_1] 81 (0, 0)) (bk_ BK787)) : gb787 ≠ gb788)); have n6_ := Aside0.mk ((by rw [hg]; exact Nat.ne_of_gt (blk_lt (g := gb787) (o := .cells #[.slice A0_0 l0_0.length c0_0, .slice A0_1 l0_1.length c0_1] 81 (0, 0)) (bk_ BK787)) : gb788 ≠ gb787)); clear BK787; clear HB; have BK787 := n0_; have HB := n1_; have BK788 := n2_; have GW788 := n3_; have GE788 := n4_; have NB787_788 := n5_; have NB788_787 := n6_; clear n0_ n1_ n2_ n3_ n4_ n5_ n6_; clear hb hbox hg) | ((with_reducible refine gate_dst (N := 3) rfl ?_); refine box_event ?hg (N := 3) ?hd (cs := #[.slice none 0 0, .slice none 0 0]) (t := 81) ?hr ?_; (case hd => rfl); (case hg => rfl); (case hr => first | (go_simp; done) | (go_simp; rfl)); intro gb789 hg w5 hbox hb; have n0_ := Aside0.mk (blk_below (g := gb787) (o := .cells #[.slice A0_0 l0_0.length c0_0, .slice A0_1 l0_1.length c0_1] 81 (0, 0)) (bk_ BK787) hb); have n1_ := Aside0.mk (blk_below (g := gb788) (o := .cells #[.slice none 0 0, .slice none 0 0] 81 (0, 0)) (bk_ BK788) hb); have n2_ := Aside0.mk (below_step bel_ hb); have n3_ := Aside0.mk (hbox); have n4_ := Aside0.mk ((by rw [hg]; exact (below_size bel_) : w.heap.size ≤ gb789)); have n5_ := Aside0.mk ((by rw [hg]; exact (below_size bel_) : w.heap.size ≤ gb789)); have n6_ := Aside0.mk ((by rw [hg]; exact Nat.ne_of_lt (blk_lt (g := gb787) (o := .cells #[.slice A0_0 l0_0.length c0_0, .slice A0_1 l0_1.length c0_1] 81 (0, 0)) (bk_ BK787)) : gb787 ≠ gb789)); have n7_ := Aside0.mk ((by rw [hg]; exact Nat.ne_of_gt (blk_lt (g := gb787) (o := .cells #[.slice A0_0 l0_0.length c0_0, .slice A0_1 l0_1.length c0_1] 81 (0, 0)) (bk_ BK787)) : gb789 ≠ gb787)); have n8_ := Aside0.mk ((by rw [hg]; exact Nat.ne_of_lt (blk_lt (g := gb788) (o := .cells #[.slice none 0 0, .slice none 0 0] 81 (0, 0)) (bk_ BK788)) : gb788 ≠ gb789)); have n9_ := Aside0.mk ((by rw [hg]; exact Nat.ne_of_gt (blk_lt (g := gb788) (o := .cells #[.slice none 0 0, .slice none 0 0] 81 (0, 0)) (bk_ BK788)) : gb789 ≠ gb788)); clear BK787; clear BK788; clear HB; have BK787 := n0_; have BK788 := n1_; have HB := n2_; have BK789 := n3_; have GW789 := n4_; have GE789 := n5_; have NB787_789 := n6_; have NB789_787 := n7_; have NB788_789 := n8_; have NB789_788 := n9_; clear n0_ n1_ n2_ n3_ n4_ n5_ n6_ n7_ n8_ n9_; clear hb hbox hg; have hnb6 := NB789_787.out; have hnc6 := NB787_789.out; have hnb7 := NB789_788.out; have hnc7 := NB788_789.out; have hcz8_0 : w5.cell? ⟨gb789, 0, none⟩ = some (.slice none 0 0) := (blk_cell BK789.out 0).trans rfl; have hcz8_1 : w5.cell? ⟨gb789, 1, none⟩ = some (.slice none 0 0) := (blk_cell BK789.out 1).trans rfl; have hfz8_0 := blk_frozen BK789.out 0; have hfz8_1 := blk_frozen BK789.out 1; have hnb9 := NB787_788.out; have hnc9 := NB788_787.out; have hcz10_0 : w5.cell? ⟨gb787, 0, none⟩ = some (.slice A0_0 l0_0.length c0_0) := (blk_cell BK787.out 0).trans rfl; have hcz10_1 : w5.cell? ⟨gb787, 1, none⟩ = some (.slice A0_1 l0_1.length c0_1) := (blk_cell BK787.out 1).trans rfl; have hfz10_0 := blk_frozen BK787.out 0; have hfz10_1 := blk_frozen BK787.out 1) | ((with_reducible refine gate_builtin (b := .append) (xs := #[.tmp 6, .tmp 8]) rfl ?_); at_builtin; refine Kd.R_append_rows k124 (w0 := w) w.heap.size rfl (.tmp 6) (.tmp 8) 78 124 (.agg #[(.string ⟨#[]⟩), (.int .i64 0)]) 24 rfl Try.underlying78 info124 rfl (by decide) (by omega) (.slice none 0 0) ([] : List (S124)) l0_0 _ _ _ (fun _ => True) (fun _ => False) rfl rfl ?aO ?aR (fun _ _ h => h) (fun _ h => h.elim) ?aF ?aB ?aS ?aL ?_; (case aR => repeat (first | exact (Kd.C_below HR0_0.out HB.out) | (with_reducible refine Kd.C_alloc ?_ _) | (with_reducible refine Kd.C_drewN ?_ _) | (with_reducible refine Kd.C_drew ?_))); (case aB => exact bel_); (case aF => exact (fun _ _ => trivial)); (case aO => exact ((Kd.R_nil _ _ _ _ (fun _ => True)))); (case aS => exact (below_size bel_)); (case aL => have := LMc2.out; omega); intro v791 w11 ho hb hg hat; rw [← Ny790.out] at ho; have n0_ := Aside0.mk (blk_grown (g := gb787) (o := .cells #[.slice A0_0 l0_0.length c0_0, .slice A0_1 l0_1.length c0_1] 81 (0, 0)) (bk_ BK787) hg (by simp [Value.ownBlock])); have n1_ := Aside0.mk (blk_grown (g := gb788) (o := .cells #[.slice none 0 0, .slice none 0 0] 81 (0, 0)) (bk_ BK788) hg (by simp [Value.ownBlock])); have n2_ := Aside0.mk (blk_grown (g := gb789) (o := .cells #[.slice none 0 0, .slice none 0 0] 81 (0, 0)) (bk_ BK789) hg (by simp [Value.ownBlock])); have n3_ := Aside0.mk (hb); have n4_ := Aside0.mk (ho); clear BK787; clear BK788; clear BK789; clear HB; have BK787 := n0_; have BK788 := n1_; have BK789 := n2_; have HB := n3_; have HO792 := n4_; clear n0_ n1_ n2_ n3_ n4_; clear ho hb hg hat; obtain ⟨Ao12, co12, eo12⟩ := Kd.R_slice HO792.out; subst eo12; have hcz13_0 : w11.cell? ⟨gb789, 0, none⟩ = some (.slice none 0 0) := (blk_cell BK789.out 0).trans rfl; have hcz13_1 : w11.cell? ⟨gb789, 1, none⟩ = some (.slice none 0 0) := (blk_cell BK789.out 1).trans rfl; have hfz13_0 := blk_frozen BK789.out 0; have hfz13_1 := blk_frozen BK789.out 1))
  go_loopg [4] k (fun kq v4 w' => ∃ (x4_1 : Int) (x790001_1 : List (S92)) (u790001 : Value), v4 = .int .i64 x4_1 ∧ Aside0 (sequentref04_Twin.l0 kq x4_1 l0_0 l0_1 y790 x790001_1 = some (r1, r2)) ∧ Aside0 (kq ≤ k) ∧ Aside0 (Kd.R k124 124 w' w.heap.size (fun _ => True) (.slice Ao12 y790.length co12) y790) ∧ Aside0 (Kd.R k92 92 w' w.heap.size (fun _ => True) u790001 x790001_1) ∧ Aside0 (w'.heap[gb787]? = some (.cells #[(.slice A0_0 l0_0.length c0_0), (.slice A0_1 l0_1.length c0_1)] 81 (0, 0))) ∧ Aside0 (w'.heap[gb788]? = some (.cells #[(.slice none 0 0), (.slice none 0 0)] 81 (0, 0))) ∧ Aside0 (w'.heap[gb789]? = some (.cells #[(.slice Ao12 y790.length co12), u790001] 81 (0, 0))) ∧ Aside0 (Below w.heap.size w w'))
  case atStart => exact ⟨(0), (([] : List (S92))), (.slice none 0 0), (by first | rfl | (simp; done) | (simp [*]; done)), H', ⟨Nat.le_refl _⟩, ⟨by (with_reducible repeat (first | apply Kd.R_alloc | apply Kd.R_drewN | apply Kd.R_drew)); exact Kd.R_mono (Kd.R_far (p := ⟨gb789, 0, none⟩) (Kd.R_types HO792.out BK789.out (by decide)) (fun _ hk => hk.2) (.slice Ao12 y790.length co12)) (fun _ hk => trivial)⟩, ⟨by first | exact Kd.R_nil _ _ _ _ _ | exact Kd.N_nil _ _ _ _ _ | exact Kd.V_nil _ _ _ _ _ | exact Kd.Q_nil _ _ _ _ _ | exact Kd.S_nil _ _ _ _ _⟩, ⟨by (with_reducible repeat (first | refine blk_drewN ?_ _ | refine blk_drew ?_ | refine blk_alloc ?_ _)); refine blk_far ?_ NB787_789.out _; (with_reducible repeat (first | refine blk_drewN ?_ _ | refine blk_drew ?_ | refine blk_alloc ?_ _)); exact BK787.out⟩, ⟨by (with_reducible repeat (first | refine blk_drewN ?_ _ | refine blk_drew ?_ | refine blk_alloc ?_ _)); refine blk_far ?_ NB788_789.out _; (with_reducible repeat (first | refine blk_drewN ?_ _ | refine blk_drew ?_ | refine blk_alloc ?_ _)); exact BK788.out⟩, ⟨by (with_reducible repeat (first | refine blk_drewN ?_ _ | refine blk_drew ?_ | refine blk_alloc ?_ _)); refine blk_put (cs := #[.slice none 0 0, .slice none 0 0]) ?_ 0 _ rfl; (with_reducible repeat (first | refine blk_drewN ?_ _ | refine blk_drew ?_ | refine blk_alloc ?_ _)); exact BK789.out⟩, ⟨bel_⟩⟩
  case round =>
   clear H'
   try clear c2
   try clear p2
   try clear c5
   try clear c6
   try clear c7
   try clear c9
   try clear hcz10_0
   try clear hcz10_1
   try clear hcz13_0
   try clear hcz13_1
   try clear hcz8_0
   try clear hcz8_1
   try clear hfz10_0
   try clear hfz10_1
   try clear hfz13_0
   try clear hfz13_1
   try clear hfz8_0
   try clear hfz8_1
   obtain ⟨x4_1, x790001_1, u790001, rfl, HA, HK1, HO_790000, HO_790001, BK787, BK788, BK789, HB⟩ := hrel
   cases gk with
   | zero => exact absurd HA.out (by simp [sequentref04_Twin.l0])
   | succ k1 =>
    have H := HA.out
    clear HA
    simp only [sequentref04_Twin.l0] at H
    by_cases c14 : x4_1 < (l0_1.length : Int)
    ·rw [if_pos c14] at H
     have c14b0 : decide (x4_1 < (l0_1.length : Int)) = true := decide_eq_true c14
     clear c14
     by_cases c15 : 0 ≤ x4_1
     ·rw [if_pos c15] at H
      have c15b0 : decide (0 ≤ x4_1) = true := decide_eq_true c15
      clear c15
      replace H := Option.bind_eq_some_iff.mp H
      obtain ⟨⟨t795, t796, t797⟩, A160, H⟩ := H
      replace H : (if x790001_1.length < 2199023255552 then (sequentref04_Twin.l0 k1 (wrap64 (x4_1 + 1)) l0_0 l0_1 y790 (x790001_1 ++ [(⟨(rd_T92 l0_1 x4_1).f0, (⟨t795, t796, t797⟩ : S25)⟩ : S92)])) else (none)) = some (r1, r2) := H
      have A16 := Aside0.mk A160
      clear A160
      by_cases c17 : x790001_1.length < 2199023255552
      ·rw [if_pos c17] at H
       have LMc17 := Aside0.mk c17
       clear c17
       obtain ⟨y800, hy800⟩ : ∃ y_ : List (S92), y_ = (x790001_1 ++ [(⟨(rd_T92 l0_1 x4_1).f0, (⟨t795, t796, t797⟩ : S25)⟩ : S92)]) := ⟨_, rfl⟩
       replace H : (sequentref04_Twin.l0 k1 (wrap64 (x4_1 + 1)) l0_0 l0_1 y790 y800) = some (r1, r2) := by first | (rw [hy800]; with_reducible exact H) | (have H2_ := (Option.bind_some _ _).symm.trans H; rw [hy800]; with_reducible exact H2_) | (have H2_ := (Option.bind_some _ _).symm.trans H; with_reducible exact H2_) | with_reducible exact H | (rw [hy800]; exact H) | exact H
       have Ny800 := Aside0.mk hy800
       clear hy800
       have H' := Aside0.mk H
       clear H
       have hnb18 := NB787_788.out
       have hnc18 := NB788_787.out
       have hnb19 := NB787_789.out
       have hnc19 := NB789_787.out
       have hcz20_0 : wr.cell? ⟨gb787, 0, none⟩ = some (.slice A0_0 l0_0.length c0_0) := (blk_cell BK787.out 0).trans rfl
       have hcz20_1 : wr.cell? ⟨gb787, 1, none⟩ = some (.slice A0_1 l0_1.length c0_1) := (blk_cell BK787.out 1).trans rfl
       have hfz20_0 := blk_frozen BK787.out 0
       have hfz20_1 := blk_frozen BK787.out 1
       try go_wp2
       have n0_ := Aside0.mk (Kd.R_drew HO_790000.out)
       have n1_ := Aside0.mk (Kd.R_drew HO_790001.out)
       have n2_ := Aside0.mk (blk_drew BK787.out)
       have n3_ := Aside0.mk (blk_drew BK788.out)
       have n4_ := Aside0.mk (blk_drew BK789.out)
       have n5_ := Aside0.mk (below_drew1 HB.out)
       clear HO_790000
       clear HO_790001
       clear BK787
       clear BK788
       clear BK789
       clear HB
       have HO_790000 := n0_
       have HO_790001 := n1_
       have BK787 := n2_
       have BK788 := n3_
       have BK789 := n4_
       have HB := n5_
       clear n0_ n1_ n2_ n3_ n4_ n5_
       have p793 : 0 ≤ (x4_1 : Int) := dq_
       have q793 : x4_1 < (l0_1.length : Int) := dq_
       obtain ⟨ad793, A793_3, c793_3, e793, hx793_0, hx793_1, hx793_2, hx793_3, hl793_3, hi793_3⟩ := at_T92 HR0_1.out x4_1 p793 q793
       have hw793_3 := hx793_3
       have hw793_2 := hx793_2
       have hw793_1 := hx793_1
       have hw793_0 := hx793_0
       cases e793
       replace hx793_0 := pw_cell_below HB.out hx793_0
       replace hx793_1 := pw_cell_below HB.out hx793_1
       replace hx793_2 := pw_cell_below HB.out hx793_2
       replace hx793_3 := pw_cell_below HB.out hx793_3
       have HR793_3 := Aside0.mk hi793_3
       have HC793_3 := Aside0.mk hl793_3
       clear hi793_3 hl793_3
       replace p793 := eq_true p793
       replace q793 := eq_true q793
       have p794 : 0 ≤ (x4_1 : Int) := dq_
       have q794 : x4_1 < (l0_1.length : Int) := dq_
       obtain ⟨ad794, A794_3, c794_3, e794, hx794_0, hx794_1, hx794_2, hx794_3, hl794_3, hi794_3⟩ := at_T92 HR0_1.out x4_1 p794 q794
       have hw794_3 := hx794_3
       have hw794_2 := hx794_2
       have hw794_1 := hx794_1
       have hw794_0 := hx794_0
       obtain rfl : ad793 = ad794 := (by injection e794)
       replace hx794_0 := pw_cell_below HB.out hx794_0
       replace hx794_1 := pw_cell_below HB.out hx794_1
       replace hx794_2 := pw_cell_below HB.out hx794_2
       replace hx794_3 := pw_cell_below HB.out hx794_3
       have HR794_3 := Aside0.mk hi794_3
       have HC794_3 := Aside0.mk hl794_3
       clear hi794_3 hl794_3
       replace p794 := eq_true p794
       replace q794 := eq_true q794
       have ea_ := Option.some.inj (hx793_3.symm.trans hx794_3)
       injection ea_ with ea_ en_ ec_
       subst ea_
       subst ec_
       clear en_
       refine start_ (n := 20) (S := fun w' => w'.cell? ⟨gb789, 0, none⟩ = some (.slice Ao12 y790.length co12) ∧ w'.cell? ⟨gb789, 1, none⟩ = some (u790001) ∧ w'.cell? ⟨gb787, 0, none⟩ = some (.slice A0_0 l0_0.length c0_0) ∧ w'.cell? ⟨gb787, 1, none⟩ = some (.slice (some ad793) l0_1.length c0_1) ∧ w'.cell? (ad793.add ((x4_1).toNat * 4)) = some (.string ((rd_T92 l0_1 x4_1).f0)) ∧ w'.cell? ⟨(ad793.add ((x4_1).toNat * 4)).block, (ad793.add ((x4_1).toNat * 4)).off + 1, none⟩ = some (.bool ((rd_T92 l0_1 x4_1).f1.f0)) ∧ w'.cell? ⟨(ad793.add ((x4_1).toNat * 4)).block, (ad793.add ((x4_1).toNat * 4)).off + 2, none⟩ = some (.string ((rd_T92 l0_1 x4_1).f1.f1)) ∧ w'.cell? ⟨(ad793.add ((x4_1).toNat * 4)).block, (ad793.add ((x4_1).toNat * 4)).off + 3, none⟩ = some (.slice A793_3 ((rd_T92 l0_1 x4_1).f1.f2).length c793_3) ∧ w'.cell? (ad793.add ((x4_1).toNat * 4)) = some (.string ((rd_T92 l0_1 x4_1).f0)) ∧ w'.cell? ⟨(ad793.add ((x4_1).toNat * 4)).block, (ad793.add ((x4_1).toNat * 4)).off + 1, none⟩ = some (.bool ((rd_T92 l0_1 x4_1).f1.f0)) ∧ w'.cell? ⟨(ad793.add ((x4_1).toNat * 4)).block, (ad793.add ((x4_1).toNat * 4)).off + 2, none⟩ = some (.string ((rd_T92 l0_1 x4_1).f1.f1)) ∧ w'.cell? ⟨(ad793.add ((x4_1).toNat * 4)).block, (ad793.add ((x4_1).toNat * 4)).off + 3, none⟩ = some (.slice A793_3 ((rd_T92 l0_1 x4_1).f1.f2).length c793_3)) (ds := [19]) #[false, false, false, false, false, false, false, false, false, false, false, false, false, false, false, false, false, false, false, false] (by kernel_rfl) rfl rfl ⟨(blk_cell BK789.out 0).trans rfl, (blk_cell BK789.out 1).trans rfl, (blk_cell BK787.out 0).trans rfl, (blk_cell BK787.out 1).trans rfl, (pw_cell_below HB.out hw793_0), (pw_cell_below HB.out hw793_1), (pw_cell_below HB.out hw793_2), (pw_cell_below HB.out hw793_3), (pw_cell_below HB.out hw794_0), (pw_cell_below HB.out hw794_1), (pw_cell_below HB.out hw794_2), (pw_cell_below HB.out hw794_3)⟩ (fun hHeld => ?_); refine with_tabW sequentref04_Twin.tab6 sequentref04_Twin.bits6 (fun HT_ HW_ => ?_)
       generalize wr.drew = w21 at HO_790000 HO_790001 BK787 BK788 BK789 HB HR793_3 HR794_3 hx793_0 hx793_1 hx793_2 hx793_3 hx794_0 hx794_1 hx794_2 hx794_3 hHeld ⊢
       refine pure_ (i := 0) (N := some 18) (v := ?_) (a' := ?_) #[true, false, false, false, false, false, false, false, false, false, false, false, false, false, false, false, false, false, false, false] rfl rfl (any_of HT_.out (by kernel_rfl)) (fun _ _ _ h => h) (Or.inl ⟨by rfl, ?_⟩) ?_ ?_
       rotate_left
       ·intro w'
        go_simp
        with_reducible rfl
       rotate_left
       ·simp only [Act.put, List.setIfInBounds_toArray, List.set_cons_zero, List.set_cons_succ, i64_w, i32_w]
        rfl
       refine pure_ (i := 2) (N := some 20) (v := ?_) (a' := ?_) #[true, false, true, false, false, false, false, false, false, false, false, false, false, false, false, false, false, false, false, false] rfl rfl (any_of HT_.out (by kernel_rfl)) (fun _ _ _ h => h) (Or.inl ⟨by rfl, ?_⟩) ?_ ?_
       rotate_left
       ·intro w'
        go_simp
        with_reducible rfl
       rotate_left
       ·simp only [Act.put, List.setIfInBounds_toArray, List.set_cons_zero, List.set_cons_succ, i64_w, i32_w]
        rfl
       refine pure_ (i := 4) (N := some 22) (v := ?_) (a' := ?_) #[true, false, true, false, true, false, false, false, false, false, false, false, false, false, false, false, false, false, false, false] rfl rfl (any_of HT_.out (by kernel_rfl)) (fun _ _ _ h => h) (Or.inl ⟨by rfl, ?_⟩) ?_ ?_
       rotate_left
       ·intro w'
        go_simp
        with_reducible rfl
       rotate_left
       ·simp only [Act.put, List.setIfInBounds_toArray, List.set_cons_zero, List.set_cons_succ, i64_w, i32_w]
        rfl
       refine pure_ (i := 8) (N := some 26) (v := ?_) (a' := ?_) #[true, false, true, false, true, false, false, false, true, false, false, false, false, false, false, false, false, false, false, false] rfl rfl (any_of HT_.out (by kernel_rfl)) (fun _ _ _ h => h) (Or.inl ⟨by rfl, ?_⟩) ?_ ?_
       rotate_left
       ·intro w'
        go_simp
        with_reducible rfl
       rotate_left
       ·simp only [Act.put, List.setIfInBounds_toArray, List.set_cons_zero, List.set_cons_succ, i64_w, i32_w]
        rfl
       refine pure_ (i := 10) (N := some 28) (v := ?_) (a' := ?_) #[true, false, true, false, true, false, false, false, true, false, true, false, false, false, false, false, false, false, false, false] rfl rfl (any_of HT_.out (by kernel_rfl)) (fun _ _ _ h => h) (Or.inl ⟨by rfl, ?_⟩) ?_ ?_
       rotate_left
       ·intro w'
        go_simp
        with_reducible rfl
       rotate_left
       ·simp only [Act.put, List.setIfInBounds_toArray, List.set_cons_zero, List.set_cons_succ, i64_w, i32_w]
        rfl
       refine take_ (i := 1) (N := some 19) (v := ?_) (a' := ?_) #[true, true, true, false, true, false, false, false, true, false, true, false, false, false, false, false, false, false, false, false] rfl rfl (take_ofW HT_.out HW_.out (by kernel_rfl)) (fun _ _ _ h => h) (Or.inl ⟨by rfl, ?_⟩) hHeld ?_ ?_
       rotate_left
       ·rintro w' ⟨s0, s1, s2, s3, s4, s5, s6, s7, s8, s9, s10, s11⟩
        go_simp
        with_reducible rfl
       rotate_left
       ·simp only [Act.put, List.setIfInBounds_toArray, List.set_cons_zero, List.set_cons_succ, i64_w, i32_w]
        rfl
       refine take_ (i := 3) (N := some 21) (v := ?_) (a' := ?_) #[true, true, true, true, true, false, false, false, true, false, true, false, false, false, false, false, false, false, false, false] rfl rfl (take_ofW HT_.out HW_.out (by kernel_rfl)) (fun _ _ _ h => h) (Or.inl ⟨by rfl, ?_⟩) hHeld ?_ ?_
       rotate_left
       ·rintro w' ⟨s0, s1, s2, s3, s4, s5, s6, s7, s8, s9, s10, s11⟩
        go_simp
        with_reducible rfl
       rotate_left
       ·simp only [Act.put, List.setIfInBounds_toArray, List.set_cons_zero, List.set_cons_succ, i64_w, i32_w]
        rfl
       refine pure_ (i := 5) (N := some 23) (v := ?_) (a' := ?_) #[true, true, true, true, true, true, false, false, true, false, true, false, false, false, false, false, false, false, false, false] rfl rfl (any_of HT_.out (by kernel_rfl)) (fun _ _ _ h => h) (Or.inl ⟨by rfl, ?_⟩) ?_ ?_
       rotate_left
       ·intro w'
        go_simp
        with_reducible rfl
       rotate_left
       ·simp only [Act.put, List.setIfInBounds_toArray, List.set_cons_zero, List.set_cons_succ, i64_w, i32_w]
        rfl
       refine pure_ (i := 6) (N := some 24) (v := ?_) (a' := ?_) #[true, true, true, true, true, true, true, false, true, false, true, false, false, false, false, false, false, false, false, false] rfl rfl (any_of HT_.out (by kernel_rfl)) (fun _ _ _ h => h) (Or.inl ⟨by rfl, ?_⟩) ?_ ?_
       rotate_left
       ·intro w'
        go_simp
        with_reducible rfl
       rotate_left
       ·simp only [Act.put, List.setIfInBounds_toArray, List.set_cons_zero, List.set_cons_succ, i64_w, i32_w]
        rfl
       refine take_ (i := 7) (N := some 25) (v := ?_) (a' := ?_) #[true, true, true, true, true, true, true, true, true, false, true, false, false, false, false, false, false, false, false, false] rfl rfl (take_ofW HT_.out HW_.out (by kernel_rfl)) (fun _ _ _ h => h) (Or.inl ⟨by rfl, ?_⟩) hHeld ?_ ?_
       rotate_left
       ·rintro w' ⟨s0, s1, s2, s3, s4, s5, s6, s7, s8, s9, s10, s11⟩
        go_simp
        with_reducible rfl
       rotate_left
       ·simp only [Act.put, List.setIfInBounds_toArray, List.set_cons_zero, List.set_cons_succ, i64_w, i32_w]
        rfl
       refine take_ (i := 9) (N := some 27) (v := ?_) (a' := ?_) #[true, true, true, true, true, true, true, true, true, true, true, false, false, false, false, false, false, false, false, false] rfl rfl (take_ofW HT_.out HW_.out (by kernel_rfl)) (fun _ _ _ h => h) (Or.inl ⟨by rfl, ?_⟩) hHeld ?_ ?_
       rotate_left
       ·rintro w' ⟨s0, s1, s2, s3, s4, s5, s6, s7, s8, s9, s10, s11⟩
        go_simp
        with_reducible rfl
       rotate_left
       ·simp only [Act.put, List.setIfInBounds_toArray, List.set_cons_zero, List.set_cons_succ, i64_w, i32_w]
        rfl
       refine pure_ (i := 11) (N := some 29) (v := ?_) (a' := ?_) #[true, true, true, true, true, true, true, true, true, true, true, true, false, false, false, false, false, false, false, false] rfl rfl (any_of HT_.out (by kernel_rfl)) (fun _ _ _ h => h) (Or.inl ⟨by rfl, ?_⟩) ?_ ?_
       rotate_left
       ·intro w'
        go_simp
        with_reducible rfl
       rotate_left
       ·simp only [Act.put, List.setIfInBounds_toArray, List.set_cons_zero, List.set_cons_succ, i64_w, i32_w]
        rfl
       refine pure_ (i := 12) (N := some 30) (v := ?_) (a' := ?_) #[true, true, true, true, true, true, true, true, true, true, true, true, true, false, false, false, false, false, false, false] rfl rfl (any_of HT_.out (by kernel_rfl)) (fun _ _ _ h => h) (Or.inl ⟨by rfl, ?_⟩) ?_ ?_
       rotate_left
       ·intro w'
        go_simp
        with_reducible rfl
       rotate_left
       ·simp only [Act.put, List.setIfInBounds_toArray, List.set_cons_zero, List.set_cons_succ, i64_w, i32_w]
        rfl
       refine take_ (i := 13) (N := some 31) (v := ?_) (a' := ?_) #[true, true, true, true, true, true, true, true, true, true, true, true, true, true, false, false, false, false, false, false] rfl rfl (take_ofW HT_.out HW_.out (by kernel_rfl)) (fun _ _ _ h => h) (Or.inl ⟨by rfl, ?_⟩) hHeld ?_ ?_
       rotate_left
       ·rintro w' ⟨s0, s1, s2, s3, s4, s5, s6, s7, s8, s9, s10, s11⟩
        go_simp
        with_reducible rfl
       rotate_left
       ·simp only [Act.put, List.setIfInBounds_toArray, List.set_cons_zero, List.set_cons_succ, i64_w, i32_w]
        rfl
       refine one_ (i := 14) (N := some 32) #[true, true, true, true, true, true, true, true, true, true, true, true, true, true, true, false, false, false, false, false] rfl rfl (one_of HT_.out (by kernel_rfl)) (by decide) (fun K hK => ?_)
       refine goes_ Try.func15 (by kernel_rfl) rfl #[.agg #[.bool ((rd_T92 l0_1 x4_1).f1.f0), .string ((rd_T92 l0_1 x4_1).f1.f1), .slice A793_3 ((rd_T92 l0_1 x4_1).f1.f2).length c793_3]] (by rfl) rfl rfl (by (try simp only [List.map_toArray, List.map_cons, List.map_nil]); first | done | rfl | (simp only [List.length_drop, List.length_take]; rfl)) ?_
       with_reducible refine (sequentref01_Twin.calls k1 ((rd_T92 l0_1 x4_1).f1.f0) ((rd_T92 l0_1 x4_1).f1.f1) _ _ ((rd_T92 l0_1 x4_1).f1.f2) t795 t796 t797 _ ?side1 ?side2 A16.out).mono ?_
       (case side1 => repeat (first | exact (Kd.C_below HR794_3.out HB.out) | (with_reducible refine Kd.C_alloc ?_ _) | (with_reducible refine Kd.C_drewN ?_ _) | (with_reducible refine Kd.C_drew ?_)))
       (case side2 => exact HC794_3.out)
       rintro e w22 ⟨v798, rfl, ho0, hb⟩
       refine ⟨_, rfl, ?_⟩
       have n0_ := Aside0.mk (Kd.R_below (by (with_reducible repeat (first | apply Kd.R_alloc | apply Kd.R_drewN | apply Kd.R_drew)); exact HO_790000.out) hb)
       have n1_ := Aside0.mk (Kd.R_elder' (by (with_reducible repeat (first | apply Kd.R_alloc | apply Kd.R_drewN | apply Kd.R_drew)); exact HO_790001.out) (Kd.R_base ho0) hb)
       have n2_ := Aside0.mk (Kd.R_lower ho0 (below_size bel_))
       have n3_ := Aside0.mk (blk_below (g := gb787) (o := .cells #[.slice A0_0 l0_0.length c0_0, .slice (some ad793) l0_1.length c0_1] 81 (0, 0)) (bk_ BK787) hb)
       have n4_ := Aside0.mk (blk_below (g := gb788) (o := .cells #[.slice none 0 0, .slice none 0 0] 81 (0, 0)) (bk_ BK788) hb)
       have n5_ := Aside0.mk (blk_below (g := gb789) (o := .cells #[.slice Ao12 y790.length co12, u790001] 81 (0, 0)) (bk_ BK789) hb)
       have n6_ := Aside0.mk (below_step bel_ hb)
       clear HO_790000
       clear HO_790001
       clear BK787
       clear BK788
       clear BK789
       clear HB
       have HO_790000 := n0_
       have HO_790001 := n1_
       have HO799 := n2_
       have BK787 := n3_
       have BK788 := n4_
       have BK789 := n5_
       have HB := n6_
       clear n0_ n1_ n2_ n3_ n4_ n5_ n6_
       (try clear hb)
       (try clear hb2)
       (try clear hk)
       (try clear hi)
       (try clear ho0)
       obtain ⟨Ao23, co23, eo23⟩ := Kd.R_slice HO799.out
       (first | subst eo23 | (injection eo23 with f1_ f2_ f3_; have f4_ := f1_.symm; have f5_ := f3_.symm; clear f1_ f2_ f3_; subst f4_; subst f5_))
       refine hK.out _ _ ⟨(blk_cell BK789.out 0).trans rfl, (blk_cell BK789.out 1).trans rfl, (blk_cell BK787.out 0).trans rfl, (blk_cell BK787.out 1).trans rfl, (pw_cell_below HB.out hw793_0), (pw_cell_below HB.out hw793_1), (pw_cell_below HB.out hw793_2), (pw_cell_below HB.out hw793_3), (pw_cell_below HB.out hw794_0), (pw_cell_below HB.out hw794_1), (pw_cell_below HB.out hw794_2), (pw_cell_below HB.out hw794_3)⟩ (fun hHeld => ?_)
       clear hK K
       refine norm_ (a' := ?_) ?_ ?_
       rotate_left
       ·show Act.put _ (some 32) _ = _
        simp only [Act.put, List.setIfInBounds_toArray, List.set_cons_zero, List.set_cons_succ, i64_w, i32_w]
        rfl
       refine pure_ (i := 15) (N := some 33) (v := ?_) (a' := ?_) #[true, true, true, true, true, true, true, true, true, true, true, true, true, true, true, true, false, false, false, false] rfl rfl (any_of HT_.out (by kernel_rfl)) (fun _ _ _ h => h) (Or.inl ⟨by rfl, ?_⟩) ?_ ?_
       rotate_left
       ·intro w'
        go_simp
        with_reducible rfl
       rotate_left
       ·simp only [Act.put, List.setIfInBounds_toArray, List.set_cons_zero, List.set_cons_succ, i64_w, i32_w]
        rfl
       refine one_ (i := 16) (N := some 34) #[true, true, true, true, true, true, true, true, true, true, true, true, true, true, true, true, true, false, false, false] rfl rfl (one_of HT_.out (by kernel_rfl)) (by decide) (fun K hK => ?_)
       refine value_ (w1 := ?_) (v := ?_) (by rfl) rfl ?_ ?_
       rotate_left 2
       ·go_simp
        constructor
        ·rfl
        ·rfl
       refine hK.out _ _ ⟨(blk_cell (blk_alloc BK789.out _) 0).trans rfl, (blk_cell (blk_alloc BK789.out _) 1).trans rfl, (blk_cell (blk_alloc BK787.out _) 0).trans rfl, (blk_cell (blk_alloc BK787.out _) 1).trans rfl, (World.cell?_alloc_lt _ _ _ (World.block_lt_of_cell? _ _ ((pw_cell_below HB.out hw793_0)))).trans ((pw_cell_below HB.out hw793_0)), (World.cell?_alloc_lt _ _ _ (World.block_lt_of_cell? _ _ ((pw_cell_below HB.out hw793_1)))).trans ((pw_cell_below HB.out hw793_1)), (World.cell?_alloc_lt _ _ _ (World.block_lt_of_cell? _ _ ((pw_cell_below HB.out hw793_2)))).trans ((pw_cell_below HB.out hw793_2)), (World.cell?_alloc_lt _ _ _ (World.block_lt_of_cell? _ _ ((pw_cell_below HB.out hw793_3)))).trans ((pw_cell_below HB.out hw793_3)), (World.cell?_alloc_lt _ _ _ (World.block_lt_of_cell? _ _ ((pw_cell_below HB.out hw794_0)))).trans ((pw_cell_below HB.out hw794_0)), (World.cell?_alloc_lt _ _ _ (World.block_lt_of_cell? _ _ ((pw_cell_below HB.out hw794_1)))).trans ((pw_cell_below HB.out hw794_1)), (World.cell?_alloc_lt _ _ _ (World.block_lt_of_cell? _ _ ((pw_cell_below HB.out hw794_2)))).trans ((pw_cell_below HB.out hw794_2)), (World.cell?_alloc_lt _ _ _ (World.block_lt_of_cell? _ _ ((pw_cell_below HB.out hw794_3)))).trans ((pw_cell_below HB.out hw794_3))⟩ (fun hHeld => ?_)
       clear hK K
       refine norm_ (a' := ?_) ?_ ?_
       rotate_left
       ·show Act.put _ (some 34) _ = _
        simp only [Act.put, List.setIfInBounds_toArray, List.set_cons_zero, List.set_cons_succ, i64_w, i32_w]
        rfl
       refine one_ (i := 17) (N := some 35) #[true, true, true, true, true, true, true, true, true, true, true, true, true, true, true, true, true, true, false, false] rfl rfl (one_of HT_.out (by kernel_rfl)) (by decide) (fun K hK => ?_)
       refine Kd.R_append_step k92 (w0 := w) w.heap.size (by rfl) (.tmp 19) (.tmp 34) 79 92 (.agg #[(.string ⟨#[]⟩), (.bool false), (.string ⟨#[]⟩), (.slice none 0 0)]) 64 rfl Try.underlying79 info92 rfl (by decide) (by omega) u790001 x790001_1 (⟨(rd_T92 l0_1 x4_1).f0, (⟨t795, t796, t797⟩ : S25)⟩ : S92) [.string ((rd_T92 l0_1 x4_1).f0), .bool t795, .string t796, .slice Ao23 t797.length co23] (fun _ => True) (fun k_ => ((fun _ => True)) k_ ∧ some k_ ≠ (u790001 : Value).ownBlock) rfl rfl ?aP (fun _ hk => hk) ?aF ?aO ?aB ?aS ?aL ?_
       (case aP => exact k92_mkM _ _ _ (⟨(rd_T92 l0_1 x4_1).f0, (⟨t795, t796, t797⟩ : S25)⟩ : S92) (Kd.R_mono (Kd.R_apart' (HO799.out) (Kd.R_typed HO_790001.out) (by decide)) (fun k_ hk => ⟨trivial, hk.2⟩)))
       (case aB => exact bel_)
       (case aF => exact (fun _ _ => trivial))
       (case aO => exact (by (with_reducible repeat (first | apply Kd.R_alloc | apply Kd.R_drewN | apply Kd.R_drew)); exact Kd.R_mono HO_790001.out (fun _ hk => trivial)))
       (case aS => exact (below_size bel_))
       (case aL => have := LMc17.out; omega)
       intro v801 w24 ho hb hg hat
       rw [← Ny800.out] at ho
       have n0_ := Aside0.mk (Kd.R_over' (by (with_reducible repeat (first | apply Kd.R_alloc | apply Kd.R_drewN | apply Kd.R_drew)); exact HO_790000.out) (Kd.R_typed (by (with_reducible repeat (first | apply Kd.R_alloc | apply Kd.R_drewN | apply Kd.R_drew)); exact HO_790001.out)) (by decide) hg)
       have n1_ := Aside0.mk (blk_grown (g := gb787) (o := .cells #[.slice A0_0 l0_0.length c0_0, .slice (some ad793) l0_1.length c0_1] 81 (0, 0)) (bk_ BK787) hg (Kd.R_ne HO_790001.out BK787.out (by decide)))
       have n2_ := Aside0.mk (blk_grown (g := gb788) (o := .cells #[.slice none 0 0, .slice none 0 0] 81 (0, 0)) (bk_ BK788) hg (Kd.R_ne HO_790001.out BK788.out (by decide)))
       have n3_ := Aside0.mk (blk_grown (g := gb789) (o := .cells #[.slice Ao12 y790.length co12, u790001] 81 (0, 0)) (bk_ BK789) hg (Kd.R_ne HO_790001.out BK789.out (by decide)))
       have n4_ := Aside0.mk (hb)
       have n5_ := Aside0.mk (ho)
       clear HO_790000
       clear BK787
       clear BK788
       clear BK789
       clear HB
       clear HO_790001
       clear HO799
       have HO_790000 := n0_
       have BK787 := n1_
       have BK788 := n2_
       have BK789 := n3_
       have HB := n4_
       have HO802 := n5_
       clear n0_ n1_ n2_ n3_ n4_ n5_
       clear ho hb hg hat
       obtain ⟨Ao25, co25, eo25⟩ := Kd.R_slice HO802.out
       (first | subst eo25 | (injection eo25 with f1_ f2_ f3_; have f4_ := f1_.symm; have f5_ := f3_.symm; clear f1_ f2_ f3_; subst f4_; subst f5_))
       refine hK.out _ _ ⟨(blk_cell BK789.out 0).trans rfl, (blk_cell BK789.out 1).trans rfl, (blk_cell BK787.out 0).trans rfl, (blk_cell BK787.out 1).trans rfl, (pw_cell_below HB.out hw793_0), (pw_cell_below HB.out hw793_1), (pw_cell_below HB.out hw793_2), (pw_cell_below HB.out hw793_3), (pw_cell_below HB.out hw794_0), (pw_cell_below HB.out hw794_1), (pw_cell_below HB.out hw794_2), (pw_cell_below HB.out hw794_3)⟩ (fun hHeld => ?_)
       clear hK K
       refine norm_ (a' := ?_) ?_ ?_
       rotate_left
       ·show Act.put _ (some 35) _ = _
        simp only [Act.put, List.setIfInBounds_toArray, List.set_cons_zero, List.set_cons_succ, i64_w, i32_w]
        rfl
       refine pure_ (i := 18) (N := some 36) (v := ?_) (a' := ?_) #[true, true, true, true, true, true, true, true, true, true, true, true, true, true, true, true, true, true, true, false] rfl rfl (any_of HT_.out (by kernel_rfl)) (fun _ _ _ h => h) (Or.inl ⟨by rfl, ?_⟩) ?_ ?_
       rotate_left
       ·intro w'
        go_simp
        with_reducible rfl
       rotate_left
       ·simp only [Act.put, List.setIfInBounds_toArray, List.set_cons_zero, List.set_cons_succ, i64_w, i32_w]
        rfl
       refine last_ (i := 19) (N := none) #[true, true, true, true, true, true, true, true, true, true, true, true, true, true, true, true, true, true, true, true] rfl rfl (one_of HT_.out (by kernel_rfl)) (by decide) (fun K hK => ?_)
       have hs26 : w24.cell? ⟨gb789, 1, none⟩ = some (u790001) := (blk_cell BK789.out 1).trans rfl
       have hfs26 := blk_frozen BK789.out 1
       have hns26_0 := NB787_789.out
       have hns26_1 := NB788_789.out
       have hms26_0 := NB789_787.out
       have hms26_1 := NB789_788.out
       refine skip_ (w1 := ?_) (by rfl) rfl ?_ ?_
       rotate_left
       ·go_simp
        rfl
       refine hK.out _ _ ?_
       clear hK K
       refine done_ (done_of HT_.out (by kernel_rfl)) ?_
       try go_wp2
       go_roundg k1
       case measure => have := HK1.out; omega
       case rel => exact ⟨(wrap64 (x4_1 + 1)), (y800), (.slice Ao25 y800.length co25), (by first | rfl | (simp; done) | (simp [*]; done)), H', ⟨by have := HK1.out; omega⟩, ⟨by (with_reducible repeat (first | apply Kd.R_alloc | apply Kd.R_drewN | apply Kd.R_drew)); exact Kd.R_mono (Kd.R_far (p := ⟨gb789, 1, none⟩) (Kd.R_types HO_790000.out BK789.out (by decide)) (fun _ hk => hk.2) (.slice Ao25 y800.length co25)) (fun _ hk => trivial)⟩, ⟨by (with_reducible repeat (first | apply Kd.R_alloc | apply Kd.R_drewN | apply Kd.R_drew)); exact Kd.R_mono (Kd.R_far (p := ⟨gb789, 1, none⟩) (Kd.R_types HO802.out BK789.out (by decide)) (fun _ hk => hk.2) (.slice Ao25 y800.length co25)) (fun _ hk => trivial)⟩, ⟨by (with_reducible repeat (first | refine blk_drewN ?_ _ | refine blk_drew ?_ | refine blk_alloc ?_ _)); refine blk_far ?_ NB787_789.out _; (with_reducible repeat (first | refine blk_drewN ?_ _ | refine blk_drew ?_ | refine blk_alloc ?_ _)); exact BK787.out⟩, ⟨by (with_reducible repeat (first | refine blk_drewN ?_ _ | refine blk_drew ?_ | refine blk_alloc ?_ _)); refine blk_far ?_ NB788_789.out _; (with_reducible repeat (first | refine blk_drewN ?_ _ | refine blk_drew ?_ | refine blk_alloc ?_ _)); exact BK788.out⟩, ⟨by (with_reducible repeat (first | refine blk_drewN ?_ _ | refine blk_drew ?_ | refine blk_alloc ?_ _)); refine blk_put (cs := #[.slice Ao12 y790.length co12, u790001]) ?_ 1 _ rfl; (with_reducible repeat (first | refine blk_drewN ?_ _ | refine blk_drew ?_ | refine blk_alloc ?_ _)); exact BK789.out⟩, ⟨bel_⟩⟩
      ·rw [if_neg c17] at H
       exact absurd H (by simp)
     ·rw [if_neg c15] at H
      exact absurd H (by simp)
    ·rw [if_neg c14] at H
     have c14b0 : decide (x4_1 < (l0_1.length : Int)) = false := decide_eq_false c14
     clear c14
     simp only [Option.some.injEq, Prod.mk.injEq] at H
     obtain ⟨rfl, rfl⟩ := H
     have hnb27 := NB787_788.out
     have hnc27 := NB788_787.out
     have hnb28 := NB787_789.out
     have hnc28 := NB789_787.out
     have hcz29_0 : wr.cell? ⟨gb787, 0, none⟩ = some (.slice A0_0 l0_0.length c0_0) := (blk_cell BK787.out 0).trans rfl
     have hcz29_1 : wr.cell? ⟨gb787, 1, none⟩ = some (.slice A0_1 l0_1.length c0_1) := (blk_cell BK787.out 1).trans rfl
     have hfz29_0 := blk_frozen BK787.out 0
     have hfz29_1 := blk_frozen BK787.out 1
     have hnb30 := NB789_788.out
     have hnc30 := NB788_789.out
     have hcz31_0 : wr.cell? ⟨gb789, 0, none⟩ = some (.slice Ao12 y790.length co12) := (blk_cell BK789.out 0).trans rfl
     have hcz31_1 : wr.cell? ⟨gb789, 1, none⟩ = some (u790001) := (blk_cell BK789.out 1).trans rfl
     have hfz31_0 := blk_frozen BK789.out 0
     have hfz31_1 := blk_frozen BK789.out 1
     have hcz32_0 : wr.cell? ⟨gb788, 0, none⟩ = some (.slice none 0 0) := (blk_cell BK788.out 0).trans rfl
     have hcz32_1 : wr.cell? ⟨gb788, 1, none⟩ = some (.slice none 0 0) := (blk_cell BK788.out 1).trans rfl
     have hfz32_0 := blk_frozen BK788.out 0
     have hfz32_1 := blk_frozen BK788.out 1
     obtain ⟨Ao33, co33, eo33⟩ := Kd.R_slice HO_790001.out
     subst eo33
     go_wp2
     refine bodyPost_ret (results_cell_row rfl _ _ gb788 81 #[.slice Ao12 y790.length co12, .slice Ao33 x790001_1.length co33] (0, 0) _ rfl (by (with_reducible repeat (first | refine blk_drewN ?_ _ | refine blk_drew ?_ | refine blk_alloc ?_ _)); refine blk_put (cs := #[.slice Ao12 y790.length co12, .slice none 0 0]) ?_ 1 _ rfl; (with_reducible repeat (first | refine blk_drewN ?_ _ | refine blk_drew ?_ | refine blk_alloc ?_ _)); refine blk_put (cs := #[.slice none 0 0, .slice none 0 0]) ?_ 0 _ rfl; (with_reducible repeat (first | refine blk_drewN ?_ _ | refine blk_drew ?_ | refine blk_alloc ?_ _)); exact BK788.out) Try.underlying81 rfl (by kernel_rfl)) rfl ?_
     exact ⟨_, _, by first | rfl | (simp [errW_none, errW_some] <;> rfl) | (simp [*, errW_none, errW_some] <;> rfl), by (with_reducible repeat (first | apply Kd.R_alloc | apply Kd.R_drewN | apply Kd.R_drew)); exact Kd.R_mono (Kd.R_far (p := ⟨gb788, 1, none⟩) (Kd.R_far (p := ⟨gb788, 0, none⟩) (Kd.R_types HO_790000.out BK788.out (by decide)) (fun _ hk => hk.2) (.slice Ao12 y790.length co12)) (fun _ hk => hk.2) (.slice Ao33 x790001_1.length co33)) (fun _ hk => trivial), by (with_reducible repeat (first | apply Kd.R_alloc | apply Kd.R_drewN | apply Kd.R_drew)); exact Kd.R_mono (Kd.R_far (p := ⟨gb788, 1, none⟩) (Kd.R_far (p := ⟨gb788, 0, none⟩) (Kd.R_types HO_790001.out BK788.out (by decide)) (fun _ hk => hk.2) (.slice Ao12 y790.length co12)) (fun _ hk => hk.2) (.slice Ao33 x790001_1.length co33)) (fun _ hk => trivial), bel_⟩
 ·rw [if_neg c2] at H
  exact absurd H (by simp)

end Go.Proofs.Ytgnklkmifcmlhaa.Q
-- written by a program of this session (wip/tools/myprint.py) out of the translation
namespace Go.Proofs.Ytgnklkmifcmlhaa.Q
open Go.RowKit Go.Proofs.YtgnklkmifcmlhaaW.PrintWords Go.Proofs.YtgnklkmifcmlhaaW.PrintLast Go.Proofs.YtgnklkmifcmlhaaW.PrintMore
attribute [local go_sem] max2_int min2_int max_two min_two max_three min_three max_four min_four   -- for this text's walks alone
set_option linter.unusedVariables false
set_option linter.unusedSimpArgs false

/-! ### sequentref04_WithType: function 90 -/
def sequentref04_WithType.f (k : Nat) (l0_0 : List (S124)) (l0_1 : List (S92)) (a1 : ByteArray) (a2 : Int) : Option ((List (S124)) × (List (S92))) := (sequentref04_Twin.f k l0_0 l0_1).bind fun bt835 => (if bt835.1.length < 5864062014805 then (some ((bt835.1 ++ [(⟨a1, a2⟩ : S124)]), bt835.2)) else (none))
set_option maxHeartbeats 8000000 in
set_option maxRecDepth 100000 in
theorem sequentref04_WithType.calls (k : Nat) (A0_0 : Option Addr) (c0_0 : Nat) (l0_0 : List (S124)) (A0_1 : Option Addr) (c0_1 : Nat) (l0_1 : List (S92)) (a1 : ByteArray) (a2 : Int) (r1 : List (S124)) (r2 : List (S92)) (w : World) (hr0_0 : Kd.C k124 w A0_0 l0_0.length l0_0) (hc0_0 : l0_0.length ≤ c0_0) (hr0_1 : Kd.C k92 w A0_1 l0_1.length l0_1) (hc0_1 : l0_1.length ≤ c0_1) (h : sequentref04_WithType.f k l0_0 l0_1 a1 a2 = some (r1, r2)) :
 Calls Try.prog 90 #[.agg #[.slice A0_0 l0_0.length c0_0, .slice A0_1 l0_1.length c0_1], .string a1, .int .i64 a2] w fun e w' => ∃ v0_ v1_ : Value, e = .returned (.agg #[v0_, v1_]) ∧ Kd.R k124 124 w' w.heap.size (fun _ => True) v0_ r1 ∧ Kd.R k92 92 w' w.heap.size (fun _ => True) v1_ r2 ∧ Below w.heap.size w w' := by
 have hu81 := Try.underlying81
 have hu124 := Try.underlying124
 have HR0_0 := Aside0.mk hr0_0
 have HC0_0 := Aside0.mk hc0_0
 clear hr0_0 hc0_0
 have HR0_1 := Aside0.mk hr0_1
 have HC0_1 := Aside0.mk hc0_1
 clear hr0_1 hc0_1
 have HB := Aside0.mk (Below.refl w.heap.size w)
 have H : ((sequentref04_Twin.f k l0_0 l0_1).bind fun bt835 => (if bt835.1.length < 5864062014805 then (some ((bt835.1 ++ [(⟨a1, a2⟩ : S124)]), bt835.2)) else (none))) = some (r1, r2) := h
 clear h
 replace H := Option.bind_eq_some_iff.mp H
 obtain ⟨⟨t835, t838⟩, A40, H⟩ := H
 replace H : (if t835.length < 5864062014805 then (some ((t835 ++ [(⟨a1, a2⟩ : S124)]), t838)) else (none)) = some (r1, r2) := H
 have A4 := Aside0.mk A40
 clear A40
 by_cases c5 : t835.length < 5864062014805
 ·rw [if_pos c5] at H
  have LMc5 := Aside0.mk c5
  clear c5
  obtain ⟨y842, hy842⟩ : ∃ y_ : List (S124), y_ = (t835 ++ [(⟨a1, a2⟩ : S124)]) := ⟨_, rfl⟩
  replace H : (some (y842, t838)) = some (r1, r2) := by first | (rw [hy842]; with_reducible exact H) | (have H2_ := (Option.bind_some _ _).symm.trans H; rw [hy842]; with_reducible exact H2_) | (have H2_ := (Option.bind_some _ _).symm.trans H; with_reducible exact H2_) | with_reducible exact H | (rw [hy842]; exact H) | exact H
  have Ny842 := Aside0.mk hy842
  clear hy842
  simp only [Option.some.injEq, Prod.mk.injEq] at H
  obtain ⟨rfl, rfl⟩ := H
  go_enter Try.func90, Try.ntmps90
  go_wp2_with (first | ((with_reducible refine gate_dst (N := 3) rfl ?_); refine box_event ?hg (N := 3) ?hd (cs := #[.slice A0_0 l0_0.length c0_0, .slice A0_1 l0_1.length c0_1]) (t := 81) ?hr ?_; (case hd => rfl); (case hg => rfl); (case hr => first | (go_simp; done) | (go_simp; rfl)); intro gb833 hg w6 hbox hb; have n0_ := Aside0.mk (below_step bel_ hb); have n1_ := Aside0.mk (hbox); have n2_ := Aside0.mk ((by rw [hg]; exact (below_size bel_) : w.heap.size ≤ gb833)); have n3_ := Aside0.mk ((by rw [hg]; exact (below_size bel_) : w.heap.size ≤ gb833)); clear HB; have HB := n0_; have BK833 := n1_; have GW833 := n2_; have GE833 := n3_; clear n0_ n1_ n2_ n3_; clear hb hbox hg) | ((with_reducible refine gate_dst (N := 6) rfl ?_); refine box_event ?hg (N := 6) ?hd (cs := #[.slice none 0 0, .slice none 0 0]) (t := 81) ?hr ?_; (case hd => rfl); (case hg => rfl); (case hr => first | (go_simp; done) | (go_simp; rfl)); intro gb834 hg w7 hbox hb; have n0_ := Aside0.mk (blk_below (g := gb833) (o := .cells #[.slice A0_0 l0_0.length c0_0, .slice A0_1 l0_1.length c0_1] 81 (0, 0)) (bk_ BK833) hb); have n1_ := Aside0.mk (below_step bel_ hb); have n2_ := Aside0.mk (hbox); have n3_ := Aside0.mk ((by rw [hg]; exact (below_size bel_) : w.heap.size ≤ gb834)); have n4_ := Aside0.mk ((by rw [hg]; exact (below_size bel_) : w.heap.size ≤ gb834)); have n5_ := Aside0.mk ((by rw [hg]; exact Nat.ne_of_lt (blk_lt (g := gb833) (o := .cells #[.slice A0_0 l0_0.length c0_0, .slice A0_1 l0_1.length c0_1] 81 (0, 0)) (bk_ BK833)) : gb833 ≠ gb834)); have n6_ := Aside0.mk ((by rw [hg]; exact Nat.ne_of_gt (blk_lt (g := gb833) (o := .cells #[.slice A0_0 l0_0.length c0_0, .slice A0_1 l0_1.length c0_1] 81 (0, 0)) (bk_ BK833)) : gb834 ≠ gb833)); clear BK833; clear HB; have BK833 := n0_; have HB := n1_; have BK834 := n2_; have GW834 := n3_; have GE834 := n4_; have NB833_834 := n5_; have NB834_833 := n6_; clear n0_ n1_ n2_ n3_ n4_ n5_ n6_; clear hb hbox hg; have hnb8 := NB833_834.out; have hnc8 := NB834_833.out; have hcz9_0 : w7.cell? ⟨gb833, 0, none⟩ = some (.slice A0_0 l0_0.length c0_0) := (blk_cell BK833.out 0).trans rfl; have hcz9_1 : w7.cell? ⟨gb833, 1, none⟩ = some (.slice A0_1 l0_1.length c0_1) := (blk_cell BK833.out 1).trans rfl; have hfz9_0 := blk_frozen BK833.out 0; have hfz9_1 := blk_frozen BK833.out 1) | ((with_reducible refine gate_callee (f := 50) rfl ?_); refine goesL_ (some 9) rfl rfl Try.func50 (by kernel_rfl) rfl #[.agg #[.slice A0_0 l0_0.length c0_0, .slice A0_1 l0_1.length c0_1]] rfl (by (try simp only [List.map_toArray, List.map_cons, List.map_nil]); first | done | rfl | (simp only [List.length_drop, List.length_take]; rfl)) ?_; (with_reducible refine (sequentref04_Twin.calls k _ _ l0_0 _ _ l0_1 t835 t838 _ ?side1 ?side2 ?side3 ?side4 A4.out).mono ?_); (case side1 => repeat (first | exact (Kd.C_below HR0_0.out HB.out) | (with_reducible refine Kd.C_alloc ?_ _) | (with_reducible refine Kd.C_drewN ?_ _) | (with_reducible refine Kd.C_drew ?_))); (case side2 => exact HC0_0.out); (case side3 => repeat (first | exact (Kd.C_below HR0_1.out HB.out) | (with_reducible refine Kd.C_alloc ?_ _) | (with_reducible refine Kd.C_drewN ?_ _) | (with_reducible refine Kd.C_drew ?_))); (case side4 => exact HC0_1.out); rintro e w10 ⟨v836, v839, rfl, ho0, ho1, hb⟩; refine ⟨_, rfl, ?_⟩; have n0_ := Aside0.mk (Kd.R_lower ho0 (below_size bel_)); have n1_ := Aside0.mk (Kd.R_lower ho1 (below_size bel_)); have n2_ := Aside0.mk (blk_below (g := gb833) (o := .cells #[.slice A0_0 l0_0.length c0_0, .slice A0_1 l0_1.length c0_1] 81 (0, 0)) (bk_ BK833) hb); have n3_ := Aside0.mk (blk_below (g := gb834) (o := .cells #[.slice none 0 0, .slice none 0 0] 81 (0, 0)) (bk_ BK834) hb); have n4_ := Aside0.mk (below_step bel_ hb); clear BK833; clear BK834; clear HB; have HO837 := n0_; have HO840 := n1_; have BK833 := n2_; have BK834 := n3_; have HB := n4_; clear n0_ n1_ n2_ n3_ n4_; (try clear hb); (try clear hb2); (try clear hk); (try clear hi); (try clear ho0); (try clear ho1)) | ((with_reducible refine gate_dst (N := 7) rfl ?_); refine box_event ?hg (N := 7) ?hd (cs := #[.slice none 0 0, .slice none 0 0]) (t := 81) ?hr ?_; (case hd => rfl); (case hg => rfl); (case hr => first | (go_simp; done) | (go_simp; rfl)); intro gb841 hg w11 hbox hb; have n0_ := Aside0.mk (Kd.R_below (by (with_reducible repeat (first | apply Kd.R_alloc | apply Kd.R_drewN | apply Kd.R_drew)); exact HO837.out) hb); have n1_ := Aside0.mk (Kd.R_below (by (with_reducible repeat (first | apply Kd.R_alloc | apply Kd.R_drewN | apply Kd.R_drew)); exact HO840.out) hb); have n2_ := Aside0.mk (blk_below (g := gb833) (o := .cells #[.slice A0_0 l0_0.length c0_0, .slice A0_1 l0_1.length c0_1] 81 (0, 0)) (bk_ BK833) hb); have n3_ := Aside0.mk (blk_below (g := gb834) (o := .cells #[.slice none 0 0, .slice none 0 0] 81 (0, 0)) (bk_ BK834) hb); have n4_ := Aside0.mk (below_step bel_ hb); have n5_ := Aside0.mk (hbox); have n6_ := Aside0.mk ((by rw [hg]; exact (below_size bel_) : w.heap.size ≤ gb841)); have n7_ := Aside0.mk ((by rw [hg]; exact (below_size bel_) : w.heap.size ≤ gb841)); have n8_ := Aside0.mk ((by rw [hg]; exact Nat.ne_of_lt (blk_lt (g := gb833) (o := .cells #[.slice A0_0 l0_0.length c0_0, .slice A0_1 l0_1.length c0_1] 81 (0, 0)) (bk_ BK833)) : gb833 ≠ gb841)); have n9_ := Aside0.mk ((by rw [hg]; exact Nat.ne_of_gt (blk_lt (g := gb833) (o := .cells #[.slice A0_0 l0_0.length c0_0, .slice A0_1 l0_1.length c0_1] 81 (0, 0)) (bk_ BK833)) : gb841 ≠ gb833)); have n10_ := Aside0.mk ((by rw [hg]; exact Nat.ne_of_lt (blk_lt (g := gb834) (o := .cells #[.slice none 0 0, .slice none 0 0] 81 (0, 0)) (bk_ BK834)) : gb834 ≠ gb841)); have n11_ := Aside0.mk ((by rw [hg]; exact Nat.ne_of_gt (blk_lt (g := gb834) (o := .cells #[.slice none 0 0, .slice none 0 0] 81 (0, 0)) (bk_ BK834)) : gb841 ≠ gb834)); clear HO837; clear HO840; clear BK833; clear BK834; clear HB; have HO837 := n0_; have HO840 := n1_; have BK833 := n2_; have BK834 := n3_; have HB := n4_; have BK841 := n5_; have GW841 := n6_; have GE841 := n7_; have NB833_841 := n8_; have NB841_833 := n9_; have NB834_841 := n10_; have NB841_834 := n11_; clear n0_ n1_ n2_ n3_ n4_ n5_ n6_ n7_ n8_ n9_ n10_ n11_; clear hb hbox hg; obtain ⟨Ao12, co12, eo12⟩ := Kd.R_slice HO837.out; subst eo12; have hnb13 := NB841_833.out; have hnc13 := NB833_841.out; have hnb14 := NB841_834.out; have hnc14 := NB834_841.out; have hcz15_0 : w11.cell? ⟨gb841, 0, none⟩ = some (.slice none 0 0) := (blk_cell BK841.out 0).trans rfl; have hcz15_1 : w11.cell? ⟨gb841, 1, none⟩ = some (.slice none 0 0) := (blk_cell BK841.out 1).trans rfl; have hfz15_0 := blk_frozen BK841.out 0; have hfz15_1 := blk_frozen BK841.out 1; obtain ⟨Ao16, co16, eo16⟩ := Kd.R_slice HO840.out; subst eo16) | ((with_reducible refine gate_builtin (b := .append) (xs := #[.tmp 11, .tmp 15]) rfl ?_); at_builtin; refine Kd.R_append k124 (w0 := w) w.heap.size rfl (.tmp 11) (.tmp 15) 78 124 (.agg #[(.string ⟨#[]⟩), (.int .i64 0)]) 24 rfl Try.underlying78 info124 rfl (by decide) (by omega) (.slice Ao12 t835.length co12) t835 (⟨a1, a2⟩ : S124) [.string a1, .int .i64 a2] (fun _ => True) (fun _ => False) rfl (by first | (go_simp; done) | (go_simp; rfl)) ?aP (fun _ hk => hk.elim) ?aF ?aO ?aB ?aS ?aL ?_; (case aP => exact k124_mkM _ _ _ (⟨a1, a2⟩ : S124)); (case aB => exact bel_); (case aF => exact (fun _ _ => trivial)); (case aO => exact (by (with_reducible repeat (first | apply Kd.R_alloc | apply Kd.R_drewN | apply Kd.R_drew)); exact Kd.R_mono (Kd.R_far (p := ⟨gb841, 1, none⟩) (Kd.R_far (p := ⟨gb841, 0, none⟩) (Kd.R_types HO837.out BK841.out (by decide)) (fun _ hk => hk.2) (.slice Ao12 t835.length co12)) (fun _ hk => hk.2) (.slice Ao16 t838.length co16)) (fun _ hk => trivial))); (case aS => exact (below_size bel_)); (case aL => have := LMc5.out; omega); intro v843 w17 ho hb hg hat; rw [← Ny842.out] at ho; have n0_ := Aside0.mk (blk_grown (g := gb833) (o := .cells #[.slice A0_0 l0_0.length c0_0, .slice A0_1 l0_1.length c0_1] 81 (0, 0)) (by (with_reducible repeat (first | refine blk_drewN ?_ _ | refine blk_drew ?_ | refine blk_alloc ?_ _)); refine blk_far ?_ NB833_841.out _; (with_reducible repeat (first | refine blk_drewN ?_ _ | refine blk_drew ?_ | refine blk_alloc ?_ _)); refine blk_far ?_ NB833_841.out _; (with_reducible repeat (first | refine blk_drewN ?_ _ | refine blk_drew ?_ | refine blk_alloc ?_ _)); exact BK833.out) hg (Kd.R_ne HO837.out BK833.out (by decide))); have n1_ := Aside0.mk (blk_grown (g := gb834) (o := .cells #[.slice none 0 0, .slice none 0 0] 81 (0, 0)) (by (with_reducible repeat (first | refine blk_drewN ?_ _ | refine blk_drew ?_ | refine blk_alloc ?_ _)); refine blk_far ?_ NB834_841.out _; (with_reducible repeat (first | refine blk_drewN ?_ _ | refine blk_drew ?_ | refine blk_alloc ?_ _)); refine blk_far ?_ NB834_841.out _; (with_reducible repeat (first | refine blk_drewN ?_ _ | refine blk_drew ?_ | refine blk_alloc ?_ _)); exact BK834.out) hg (Kd.R_ne HO837.out BK834.out (by decide))); have n2_ := Aside0.mk (Kd.R_over' (by (with_reducible repeat (first | apply Kd.R_alloc | apply Kd.R_drewN | apply Kd.R_drew)); exact (Kd.R_mono (Kd.R_far (p := ⟨gb841, 1, none⟩) (Kd.R_far (p := ⟨gb841, 0, none⟩) (Kd.R_types HO840.out BK841.out (by decide)) (fun _ hk => hk.2) (.slice Ao12 t835.length co12)) (fun _ hk => hk.2) (.slice Ao16 t838.length co16)) (fun _ h_ => h_.1))) (Kd.R_typed (by (with_reducible repeat (first | apply Kd.R_alloc | apply Kd.R_drewN | apply Kd.R_drew)); exact (Kd.R_mono (Kd.R_far (p := ⟨gb841, 1, none⟩) (Kd.R_far (p := ⟨gb841, 0, none⟩) (Kd.R_types HO837.out BK841.out (by decide)) (fun _ hk => hk.2) (.slice Ao12 t835.length co12)) (fun _ hk => hk.2) (.slice Ao16 t838.length co16)) (fun _ h_ => h_.1)))) (by decide) hg); have n3_ := Aside0.mk (blk_grown (g := gb841) (o := .cells #[.slice Ao12 t835.length co12, .slice Ao16 t838.length co16] 81 (0, 0)) (by (with_reducible repeat (first | refine blk_drewN ?_ _ | refine blk_drew ?_ | refine blk_alloc ?_ _)); refine blk_put (cs := #[.slice Ao12 t835.length co12, .slice none 0 0]) ?_ 1 _ rfl; (with_reducible repeat (first | refine blk_drewN ?_ _ | refine blk_drew ?_ | refine blk_alloc ?_ _)); refine blk_put (cs := #[.slice none 0 0, .slice none 0 0]) ?_ 0 _ rfl; (with_reducible repeat (first | refine blk_drewN ?_ _ | refine blk_drew ?_ | refine blk_alloc ?_ _)); exact BK841.out) hg (Kd.R_ne HO837.out BK841.out (by decide))); have n4_ := Aside0.mk (hb); have n5_ := Aside0.mk (ho); clear BK833; clear BK834; clear HO840; clear BK841; clear HB; clear HO837; have BK833 := n0_; have BK834 := n1_; have HO840 := n2_; have BK841 := n3_; have HB := n4_; have HO844 := n5_; clear n0_ n1_ n2_ n3_ n4_ n5_; clear ho hb hg hat; obtain ⟨Ao18, co18, eo18⟩ := Kd.R_slice HO844.out; subst eo18; have hcz19_0 : w17.cell? ⟨gb841, 0, none⟩ = some (.slice Ao12 t835.length co12) := (blk_cell BK841.out 0).trans rfl; have hcz19_1 : w17.cell? ⟨gb841, 1, none⟩ = some (.slice Ao16 t838.length co16) := (blk_cell BK841.out 1).trans rfl; have hfz19_0 := blk_frozen BK841.out 0; have hfz19_1 := blk_frozen BK841.out 1; have hcz20_0 : w17.cell? ⟨gb834, 0, none⟩ = some (.slice none 0 0) := (blk_cell BK834.out 0).trans rfl; have hcz20_1 : w17.cell? ⟨gb834, 1, none⟩ = some (.slice none 0 0) := (blk_cell BK834.out 1).trans rfl; have hfz20_0 := blk_frozen BK834.out 0; have hfz20_1 := blk_frozen BK834.out 1))
  refine bodyPost_ret (results_cell_row rfl _ _ gb834 81 #[.slice Ao18 y842.length co18, .slice Ao16 t838.length co16] (0, 0) _ rfl (by (with_reducible repeat (first | refine blk_drewN ?_ _ | refine blk_drew ?_ | refine blk_alloc ?_ _)); refine blk_put (cs := #[.slice Ao18 y842.length co18, .slice none 0 0]) ?_ 1 _ rfl; (with_reducible repeat (first | refine blk_drewN ?_ _ | refine blk_drew ?_ | refine blk_alloc ?_ _)); refine blk_put (cs := #[.slice none 0 0, .slice none 0 0]) ?_ 0 _ rfl; (with_reducible repeat (first | refine blk_drewN ?_ _ | refine blk_drew ?_ | refine blk_alloc ?_ _)); refine blk_far ?_ NB834_841.out _; (with_reducible repeat (first | refine blk_drewN ?_ _ | refine blk_drew ?_ | refine blk_alloc ?_ _)); exact BK834.out) Try.underlying81 rfl (by kernel_rfl)) rfl ?_
  exact ⟨_, _, by first | rfl | (simp [errW_none, errW_some] <;> rfl) | (simp [*, errW_none, errW_some] <;> rfl), by (with_reducible repeat (first | apply Kd.R_alloc | apply Kd.R_drewN | apply Kd.R_drew)); exact Kd.R_mono (Kd.R_far (p := ⟨gb834, 1, none⟩) (Kd.R_far (p := ⟨gb834, 0, none⟩) (Kd.R_far (p := ⟨gb841, 0, none⟩) (Kd.R_types (Kd.R_types HO844.out BK841.out (by decide)) BK834.out (by decide)) (fun _ hk => hk.1.2) (.slice Ao18 y842.length co18)) (fun _ hk => hk.2) (.slice Ao18 y842.length co18)) (fun _ hk => hk.2) (.slice Ao16 t838.length co16)) (fun _ hk => trivial), by (with_reducible repeat (first | apply Kd.R_alloc | apply Kd.R_drewN | apply Kd.R_drew)); exact Kd.R_mono (Kd.R_far (p := ⟨gb834, 1, none⟩) (Kd.R_far (p := ⟨gb834, 0, none⟩) (Kd.R_far (p := ⟨gb841, 0, none⟩) (Kd.R_types (Kd.R_types HO840.out BK841.out (by decide)) BK834.out (by decide)) (fun _ hk => hk.1.2) (.slice Ao18 y842.length co18)) (fun _ hk => hk.2) (.slice Ao18 y842.length co18)) (fun _ hk => hk.2) (.slice Ao16 t838.length co16)) (fun _ hk => trivial), bel_⟩
 ·rw [if_neg c5] at H
  exact absurd H (by simp)

end Go.Proofs.Ytgnklkmifcmlhaa.Q
-- written by a program of this session (wip/tools/myprint.py) out of the translation
namespace Go.Proofs.Ytgnklkmifcmlhaa.Q
open Go.RowKit Go.Proofs.YtgnklkmifcmlhaaW.PrintWords Go.Proofs.YtgnklkmifcmlhaaW.PrintLast Go.Proofs.YtgnklkmifcmlhaaW.PrintMore
attribute [local go_sem] max2_int min2_int max_two min_two max_three min_three max_four min_four   -- for this text's walks alone
set_option linter.unusedVariables false
set_option linter.unusedSimpArgs false

/-! ### sequentref04_Const: function 94 -/
def sequentref04_Const.l0 : Nat → ByteArray → Int → List (S124) → List (S92) → Option (Bool × ByteArray × (List (S25)) × Bool)
 | 0, _, _, _, _ => none
 | k + 1, x1, x6, x861000, x861001 => if x6 < (x861001.length : Int) then (if 0 ≤ x6 then (if ((rd_T92 x861001 x6).f0).toList = x1.toList then ((sequentref01_Twin.f k ((rd_T92 x861001 x6).f1.f0) ((rd_T92 x861001 x6).f1.f1) ((rd_T92 x861001 x6).f1.f2)).bind fun bt864 => (some (bt864.1, bt864.2.1, bt864.2.2, true))) else (sequentref04_Const.l0 k x1 (wrap64 (x6 + 1)) x861000 x861001)) else (none)) else (some (false, (⟨#[]⟩ : ByteArray), ([] : List (S25)), false))
def sequentref04_Const.f (k : Nat) (l0_0 : List (S124)) (l0_1 : List (S92)) (a1 : ByteArray) : Option (Bool × ByteArray × (List (S25)) × Bool) := sequentref04_Const.l0 k a1 0 l0_0 l0_1
set_option maxHeartbeats 8000000 in
set_option maxRecDepth 100000 in
theorem sequentref04_Const.calls (k : Nat) (A0_0 : Option Addr) (c0_0 : Nat) (l0_0 : List (S124)) (A0_1 : Option Addr) (c0_1 : Nat) (l0_1 : List (S92)) (a1 : ByteArray) (r1 : Bool) (r2 : ByteArray) (r3 : List (S25)) (r4 : Bool) (w : World) (hr0_0 : Kd.C k124 w A0_0 l0_0.length l0_0) (hc0_0 : l0_0.length ≤ c0_0) (hr0_1 : Kd.C k92 w A0_1 l0_1.length l0_1) (hc0_1 : l0_1.length ≤ c0_1) (h : sequentref04_Const.f k l0_0 l0_1 a1 = some (r1, r2, r3, r4)) :
 Calls Try.prog 94 #[.agg #[.slice A0_0 l0_0.length c0_0, .slice A0_1 l0_1.length c0_1], .string a1] w fun e w' => ∃ v2_ : Value, e = .returned (.tuple #[.agg #[.bool r1, .string r2, v2_], .bool r4]) ∧ Kd.R k25 25 w' w.heap.size (fun _ => True) v2_ r3 ∧ Below w.heap.size w w' := by
 have hu81 := Try.underlying81
 have hu25 := Try.underlying25
 have HR0_0 := Aside0.mk hr0_0
 have HC0_0 := Aside0.mk hc0_0
 clear hr0_0 hc0_0
 have HR0_1 := Aside0.mk hr0_1
 have HC0_1 := Aside0.mk hc0_1
 clear hr0_1 hc0_1
 have HB := Aside0.mk (Below.refl w.heap.size w)
 have H : (sequentref04_Const.l0 k a1 0 l0_0 l0_1) = some (r1, r2, r3, r4) := h
 clear h
 have H' := Aside0.mk H
 clear H
 go_enter Try.func94, Try.ntmps94
 go_wp2_with (first | ((with_reducible refine gate_dst (N := 2) rfl ?_); refine box_event ?hg (N := 2) ?hd (cs := #[.slice A0_0 l0_0.length c0_0, .slice A0_1 l0_1.length c0_1]) (t := 81) ?hr ?_; (case hd => rfl); (case hg => rfl); (case hr => first | (go_simp; done) | (go_simp; rfl)); intro gb860 hg w3 hbox hb; have n0_ := Aside0.mk (below_step bel_ hb); have n1_ := Aside0.mk (hbox); have n2_ := Aside0.mk ((by rw [hg]; exact (below_size bel_) : w.heap.size ≤ gb860)); have n3_ := Aside0.mk ((by rw [hg]; exact (below_size bel_) : w.heap.size ≤ gb860)); clear HB; have HB := n0_; have BK860 := n1_; have GW860 := n2_; have GE860 := n3_; clear n0_ n1_ n2_ n3_; clear hb hbox hg) | ((with_reducible refine gate_dst (N := 4) rfl ?_); refine box_event ?hg (N := 4) ?hd (cs := #[.bool false, .string (⟨#[]⟩ : ByteArray), .slice none 0 0]) (t := 25) ?hr ?_; (case hd => rfl); (case hg => rfl); (case hr => first | (go_simp; done) | (go_simp; rfl)); intro gb861 hg w4 hbox hb; have n0_ := Aside0.mk (blk_below (g := gb860) (o := .cells #[.slice A0_0 l0_0.length c0_0, .slice A0_1 l0_1.length c0_1] 81 (0, 0)) (bk_ BK860) hb); have n1_ := Aside0.mk (below_step bel_ hb); have n2_ := Aside0.mk (hbox); have n3_ := Aside0.mk ((by rw [hg]; exact (below_size bel_) : w.heap.size ≤ gb861)); have n4_ := Aside0.mk ((by rw [hg]; exact (below_size bel_) : w.heap.size ≤ gb861)); have n5_ := Aside0.mk ((by rw [hg]; exact Nat.ne_of_lt (blk_lt (g := gb860) (o := .cells #[.slice A0_0 l0_0.length c0_0, .slice A0_1 l0_1.length c0_1] 81 (0, 0)) (bk_ BK860)) : gb860 ≠ gb861)); have n6_ := Aside0.mk ((by rw [hg]; exact Nat.ne_of_gt (blk_lt (g := gb860) (o := .cells #[.slice A0_0 l0_0.length c0_0, .slice A0_1 l0_1.length c0_1] 81 (0, 0)) (bk_ BK860)) : gb861 ≠ gb860)); clear BK860; clear HB; have BK860 := n0_; have HB := n1_; have BK861 := n2_; have GW861 := n3_; have GE861 := n4_; have NB860_861 := n5_; have NB861_860 := n6_; clear n0_ n1_ n2_ n3_ n4_ n5_ n6_; clear hb hbox hg))
 go_loopg [6] k (fun kq v6 w' => ∃ (x6_1 : Int) (x862000_1 : Bool) (x862001_1 : ByteArray), v6 = .int .i64 x6_1 ∧ Aside0 (sequentref04_Const.l0 kq a1 x6_1 l0_0 l0_1 = some (r1, r2, r3, r4)) ∧ Aside0 (kq ≤ k) ∧ Aside0 (w'.heap[gb860]? = some (.cells #[(.slice A0_0 l0_0.length c0_0), (.slice A0_1 l0_1.length c0_1)] 81 (0, 0))) ∧ Aside0 (w'.heap[gb861]? = some (.cells #[.bool x862000_1, .string x862001_1, (.slice none 0 0)] 25 (0, 0))) ∧ Aside0 (Below w.heap.size w w'))
 case atStart => exact ⟨(0), (false), ((⟨#[]⟩ : ByteArray)), (by first | rfl | (simp; done) | (simp [*]; done)), H', ⟨Nat.le_refl _⟩, ⟨bk_ BK860⟩, ⟨bk_ BK861⟩, ⟨bel_⟩⟩
 case round =>
  clear H'
  try clear p2
  obtain ⟨x6_1, x862000_1, x862001_1, rfl, HA, HK1, BK860, BK861, HB⟩ := hrel
  cases gk with
  | zero => exact absurd HA.out (by simp [sequentref04_Const.l0])
  | succ k1 =>
   have H := HA.out
   clear HA
   simp only [sequentref04_Const.l0] at H
   by_cases c5 : x6_1 < (l0_1.length : Int)
   ·rw [if_pos c5] at H
    have c5b0 : decide (x6_1 < (l0_1.length : Int)) = true := decide_eq_true c5
    clear c5
    by_cases c6 : 0 ≤ x6_1
    ·rw [if_pos c6] at H
     have c6b0 : decide (0 ≤ x6_1) = true := decide_eq_true c6
     clear c6
     by_cases c7 : ((rd_T92 l0_1 x6_1).f0).toList = a1.toList
     ·rw [if_pos c7] at H
      have c7b0 : (((rd_T92 l0_1 x6_1).f0).toList == a1.toList) = true := beq_iff_eq.mpr c7
      have c7b1 : (((rd_T92 l0_1 x6_1).f0).toList != a1.toList) = false := bne_eq_false_iff_eq.mpr c7
      clear c7
      replace H := Option.bind_eq_some_iff.mp H
      obtain ⟨⟨t864, t865, t866⟩, A80, H⟩ := H
      replace H : (some (t864, t865, t866, true)) = some (r1, r2, r3, r4) := H
      have A8 := Aside0.mk A80
      clear A80
      simp only [Option.some.injEq, Prod.mk.injEq] at H
      obtain ⟨rfl, rfl, rfl, rfl⟩ := H
      have hnb9 := NB860_861.out
      have hnc9 := NB861_860.out
      have hcz10_0 : wr.cell? ⟨gb860, 0, none⟩ = some (.slice A0_0 l0_0.length c0_0) := (blk_cell BK860.out 0).trans rfl
      have hcz10_1 : wr.cell? ⟨gb860, 1, none⟩ = some (.slice A0_1 l0_1.length c0_1) := (blk_cell BK860.out 1).trans rfl
      have hfz10_0 := blk_frozen BK860.out 0
      have hfz10_1 := blk_frozen BK860.out 1
      have p862 : 0 ≤ (x6_1 : Int) := dq_
      have q862 : x6_1 < (l0_1.length : Int) := dq_
      obtain ⟨ad862, A862_3, c862_3, e862, hx862_0, hx862_1, hx862_2, hx862_3, hl862_3, hi862_3⟩ := at_T92 HR0_1.out x6_1 p862 q862
      cases e862
      replace hx862_0 := pw_cell_below HB.out hx862_0
      replace hx862_1 := pw_cell_below HB.out hx862_1
      replace hx862_2 := pw_cell_below HB.out hx862_2
      replace hx862_3 := pw_cell_below HB.out hx862_3
      have HR862_3 := Aside0.mk hi862_3
      have HC862_3 := Aside0.mk hl862_3
      clear hi862_3 hl862_3
      replace p862 := eq_true p862
      replace q862 := eq_true q862
      have p863 : 0 ≤ (x6_1 : Int) := dq_
      have q863 : x6_1 < (l0_1.length : Int) := dq_
      obtain ⟨ad863, A863_3, c863_3, e863, hx863_0, hx863_1, hx863_2, hx863_3, hl863_3, hi863_3⟩ := at_T92 HR0_1.out x6_1 p863 q863
      obtain rfl : ad862 = ad863 := (by injection e863)
      replace hx863_0 := pw_cell_below HB.out hx863_0
      replace hx863_1 := pw_cell_below HB.out hx863_1
      replace hx863_2 := pw_cell_below HB.out hx863_2
      replace hx863_3 := pw_cell_below HB.out hx863_3
      have HR863_3 := Aside0.mk hi863_3
      have HC863_3 := Aside0.mk hl863_3
      clear hi863_3 hl863_3
      replace p863 := eq_true p863
      replace q863 := eq_true q863
      have ea_ := Option.some.inj (hx862_3.symm.trans hx863_3)
      injection ea_ with ea_ en_ ec_
      subst ea_
      subst ec_
      clear en_
      go_wp2_with (first | ((with_reducible refine gate_callee (f := 15) rfl ?_); refine goesL_ (some 28) rfl rfl Try.func15 (by kernel_rfl) rfl #[.agg #[.bool ((rd_T92 l0_1 x6_1).f1.f0), .string ((rd_T92 l0_1 x6_1).f1.f1), .slice A862_3 ((rd_T92 l0_1 x6_1).f1.f2).length c862_3]] rfl (by (try simp only [List.map_toArray, List.map_cons, List.map_nil]); first | done | rfl | (simp only [List.length_drop, List.length_take]; rfl)) ?_; (with_reducible refine (sequentref01_Twin.calls k1 ((rd_T92 l0_1 x6_1).f1.f0) ((rd_T92 l0_1 x6_1).f1.f1) _ _ ((rd_T92 l0_1 x6_1).f1.f2) t864 t865 t866 _ ?side1 ?side2 A8.out).mono ?_); (case side1 => repeat (first | exact (Kd.C_below HR863_3.out HB.out) | (with_reducible refine Kd.C_alloc ?_ _) | (with_reducible refine Kd.C_drewN ?_ _) | (with_reducible refine Kd.C_drew ?_))); (case side2 => exact HC863_3.out); rintro e w11 ⟨v867, rfl, ho0, hb⟩; refine ⟨_, rfl, ?_⟩; have n0_ := Aside0.mk (Kd.R_lower (Kd.R_newB ho0 (g := gb861) (o := .cells #[.bool x862000_1, .string x862001_1, .slice none 0 0] 25 (0, 0)) (bk_ BK861)) (below_size bel_)); have n1_ := Aside0.mk (blk_below (g := gb860) (o := .cells #[.slice A0_0 l0_0.length c0_0, .slice (some ad862) l0_1.length c0_1] 81 (0, 0)) (bk_ BK860) hb); have n2_ := Aside0.mk (blk_below (g := gb861) (o := .cells #[.bool x862000_1, .string x862001_1, .slice none 0 0] 25 (0, 0)) (bk_ BK861) hb); have n3_ := Aside0.mk (below_step bel_ hb); clear BK860; clear BK861; clear HB; have HO868 := n0_; have BK860 := n1_; have BK861 := n2_; have HB := n3_; clear n0_ n1_ n2_ n3_; (try clear hb); (try clear hb2); (try clear hk); (try clear hi); (try clear ho0); have hcz12_0 : w11.cell? ⟨gb861, 0, none⟩ = some (.bool x862000_1) := (blk_cell BK861.out 0).trans rfl; have hcz12_1 : w11.cell? ⟨gb861, 1, none⟩ = some (.string x862001_1) := (blk_cell BK861.out 1).trans rfl; have hcz12_2 : w11.cell? ⟨gb861, 2, none⟩ = some (.slice none 0 0) := (blk_cell BK861.out 2).trans rfl; have hfz12_0 := blk_frozen BK861.out 0; have hfz12_1 := blk_frozen BK861.out 1; have hfz12_2 := blk_frozen BK861.out 2; obtain ⟨Ao13, co13, eo13⟩ := Kd.R_slice HO868.out; subst eo13))
      refine bodyPost_ret (results_ct rfl _ _ gb861 25 #[.bool t864, .string t865, .slice Ao13 t866.length co13] (0, 0) _ rfl (by (with_reducible repeat (first | refine blk_drewN ?_ _ | refine blk_drew ?_ | refine blk_alloc ?_ _)); refine blk_put (cs := #[.bool t864, .string t865, .slice none 0 0]) ?_ 2 _ rfl; (with_reducible repeat (first | refine blk_drewN ?_ _ | refine blk_drew ?_ | refine blk_alloc ?_ _)); refine blk_put (cs := #[.bool t864, .string x862001_1, .slice none 0 0]) ?_ 1 _ rfl; (with_reducible repeat (first | refine blk_drewN ?_ _ | refine blk_drew ?_ | refine blk_alloc ?_ _)); refine blk_put (cs := #[.bool x862000_1, .string x862001_1, .slice none 0 0]) ?_ 0 _ rfl; (with_reducible repeat (first | refine blk_drewN ?_ _ | refine blk_drew ?_ | refine blk_alloc ?_ _)); exact BK861.out) Try.underlying25 rfl (by kernel_rfl)) rfl ?_
      exact ⟨_, by first | rfl | (simp [errW_none, errW_some] <;> rfl) | (simp [*, errW_none, errW_some] <;> rfl), by (with_reducible repeat (first | apply Kd.R_alloc | apply Kd.R_drewN | apply Kd.R_drew)); exact Kd.R_mono (Kd.R_far (p := ⟨gb861, 2, none⟩) (Kd.R_far (p := ⟨gb861, 1, none⟩) (Kd.R_far (p := ⟨gb861, 0, none⟩) (Kd.R_mono HO868.out (fun k_ hk => (⟨hk, hk.2⟩ : _ ∧ k_ ≠ gb861))) (fun _ hk => hk.2) (.bool t864)) (fun _ hk => hk.2) (.string t865)) (fun _ hk => hk.2) (.slice Ao13 t866.length co13)) (fun _ hk => trivial), bel_⟩
     ·rw [if_neg c7] at H
      have c7b0 : (((rd_T92 l0_1 x6_1).f0).toList == a1.toList) = false := beq_eq_false_iff_ne.mpr c7
      have c7b1 : (((rd_T92 l0_1 x6_1).f0).toList != a1.toList) = true := bne_iff_ne.mpr c7
      have H' := Aside0.mk H
      clear H
      have hnb14 := NB860_861.out
      have hnc14 := NB861_860.out
      have hcz15_0 : wr.cell? ⟨gb860, 0, none⟩ = some (.slice A0_0 l0_0.length c0_0) := (blk_cell BK860.out 0).trans rfl
      have hcz15_1 : wr.cell? ⟨gb860, 1, none⟩ = some (.slice A0_1 l0_1.length c0_1) := (blk_cell BK860.out 1).trans rfl
      have hfz15_0 := blk_frozen BK860.out 0
      have hfz15_1 := blk_frozen BK860.out 1
      have p862 : 0 ≤ (x6_1 : Int) := dq_
      have q862 : x6_1 < (l0_1.length : Int) := dq_
      obtain ⟨ad862, A862_3, c862_3, e862, hx862_0, hx862_1, hx862_2, hx862_3, hl862_3, hi862_3⟩ := at_T92 HR0_1.out x6_1 p862 q862
      cases e862
      replace hx862_0 := pw_cell_below HB.out hx862_0
      replace hx862_1 := pw_cell_below HB.out hx862_1
      replace hx862_2 := pw_cell_below HB.out hx862_2
      replace hx862_3 := pw_cell_below HB.out hx862_3
      have HR862_3 := Aside0.mk hi862_3
      have HC862_3 := Aside0.mk hl862_3
      clear hi862_3 hl862_3
      replace p862 := eq_true p862
      replace q862 := eq_true q862
      go_wp2
      go_roundg k1
      case measure => have := HK1.out; omega
      case rel => exact ⟨(wrap64 (x6_1 + 1)), (x862000_1), (x862001_1), (by first | rfl | (simp; done) | (simp [*]; done)), H', ⟨by have := HK1.out; omega⟩, ⟨bk_ BK860⟩, ⟨bk_ BK861⟩, ⟨bel_⟩⟩
    ·rw [if_neg c6] at H
     exact absurd H (by simp)
   ·rw [if_neg c5] at H
    have c5b0 : decide (x6_1 < (l0_1.length : Int)) = false := decide_eq_false c5
    clear c5
    simp only [Option.some.injEq, Prod.mk.injEq] at H
    obtain ⟨rfl, rfl, rfl, rfl⟩ := H
    have hnb16 := NB860_861.out
    have hnc16 := NB861_860.out
    have hcz17_0 : wr.cell? ⟨gb860, 0, none⟩ = some (.slice A0_0 l0_0.length c0_0) := (blk_cell BK860.out 0).trans rfl
    have hcz17_1 : wr.cell? ⟨gb860, 1, none⟩ = some (.slice A0_1 l0_1.length c0_1) := (blk_cell BK860.out 1).trans rfl
    have hfz17_0 := blk_frozen BK860.out 0
    have hfz17_1 := blk_frozen BK860.out 1
    have hcz18_0 : wr.cell? ⟨gb861, 0, none⟩ = some (.bool x862000_1) := (blk_cell BK861.out 0).trans rfl
    have hcz18_1 : wr.cell? ⟨gb861, 1, none⟩ = some (.string x862001_1) := (blk_cell BK861.out 1).trans rfl
    have hcz18_2 : wr.cell? ⟨gb861, 2, none⟩ = some (.slice none 0 0) := (blk_cell BK861.out 2).trans rfl
    have hfz18_0 := blk_frozen BK861.out 0
    have hfz18_1 := blk_frozen BK861.out 1
    have hfz18_2 := blk_frozen BK861.out 2
    go_wp2
    refine bodyPost_ret (results_ct rfl _ _ gb861 25 #[.bool false, .string (⟨#[]⟩ : ByteArray), .slice none 0 0] (0, 0) _ rfl (by (with_reducible repeat (first | refine blk_drewN ?_ _ | refine blk_drew ?_ | refine blk_alloc ?_ _)); refine blk_put (cs := #[.bool false, .string (⟨#[]⟩ : ByteArray), .slice none 0 0]) ?_ 2 _ rfl; (with_reducible repeat (first | refine blk_drewN ?_ _ | refine blk_drew ?_ | refine blk_alloc ?_ _)); refine blk_put (cs := #[.bool false, .string x862001_1, .slice none 0 0]) ?_ 1 _ rfl; (with_reducible repeat (first | refine blk_drewN ?_ _ | refine blk_drew ?_ | refine blk_alloc ?_ _)); refine blk_put (cs := #[.bool x862000_1, .string x862001_1, .slice none 0 0]) ?_ 0 _ rfl; (with_reducible repeat (first | refine blk_drewN ?_ _ | refine blk_drew ?_ | refine blk_alloc ?_ _)); exact BK861.out) Try.underlying25 rfl (by kernel_rfl)) rfl ?_
    exact ⟨_, by first | rfl | (simp [errW_none, errW_some] <;> rfl) | (simp [*, errW_none, errW_some] <;> rfl), by first | exact Kd.R_nil _ _ _ _ _ | exact Kd.N_nil _ _ _ _ _ | exact Kd.V_nil _ _ _ _ _ | exact Kd.Q_nil _ _ _ _ _ | exact Kd.S_nil _ _ _ _ _, bel_⟩

end Go.Proofs.Ytgnklkmifcmlhaa.Q
-- written by a program of this session (wip/tools/myprint.py) out of the translation
namespace Go.Proofs.Ytgnklkmifcmlhaa.Q
open Go.RowKit Go.Proofs.YtgnklkmifcmlhaaW.PrintWords Go.Proofs.YtgnklkmifcmlhaaW.PrintLast Go.Proofs.YtgnklkmifcmlhaaW.PrintMore
attribute [local go_sem] max2_int min2_int max_two min_two max_three min_three max_four min_four   -- for this text's walks alone
set_option linter.unusedVariables false
set_option linter.unusedSimpArgs false

/-! ### sequentref04_WithConst: function 95 -/
def sequentref04_WithConst.f (k : Nat) (l0_0 : List (S124)) (l0_1 : List (S92)) (a1 : ByteArray) (a2_0 : Bool) (a2_1 : ByteArray) (l2_2 : List (S25)) : Option ((List (S124)) × (List (S92))) := (sequentref04_Twin.f k l0_0 l0_1).bind fun bt872 => ((sequentref01_Twin.f k a2_0 a2_1 l2_2).bind fun bt879 => (if bt872.2.length < 2199023255552 then (some (bt872.1, (bt872.2 ++ [(⟨a1, (⟨bt879.1, bt879.2.1, bt879.2.2⟩ : S25)⟩ : S92)]))) else (none)))
def sequentref04_WithConst.T2 : Bool × List (List Nat × List Nat) := (true, [([], []), ([0], [0]), ([], []), ([], []), ([3], [3]), ([2, 4], [2, 4]), ([5], [5]), ([1, 6, 4], [1, 6]), ([0, 1, 2, 3, 4, 5, 6, 7], []), ([8, 7, 7, 0, 1, 2, 3, 4, 5, 6, 7], [7, 8])])
def sequentref04_WithConst.B2 : List Nat := [0, 1, 0, 0, 8, 28, 60, 127, 255, 511]
theorem sequentref04_WithConst.tab2 : rtab .any (opsOf Try.f95 2) = sequentref04_WithConst.T2 := by kernel_rfl
theorem sequentref04_WithConst.bits2 : waitsOk sequentref04_WithConst.T2.2 sequentref04_WithConst.B2 = true := by kernel_rfl
set_option maxHeartbeats 8000000 in
set_option maxRecDepth 100000 in
theorem sequentref04_WithConst.calls (k : Nat) (A0_0 : Option Addr) (c0_0 : Nat) (l0_0 : List (S124)) (A0_1 : Option Addr) (c0_1 : Nat) (l0_1 : List (S92)) (a1 : ByteArray) (a2_0 : Bool) (a2_1 : ByteArray) (A2_2 : Option Addr) (c2_2 : Nat) (l2_2 : List (S25)) (r1 : List (S124)) (r2 : List (S92)) (w : World) (hr0_0 : Kd.C k124 w A0_0 l0_0.length l0_0) (hc0_0 : l0_0.length ≤ c0_0) (hr0_1 : Kd.C k92 w A0_1 l0_1.length l0_1) (hc0_1 : l0_1.length ≤ c0_1) (hr2_2 : Kd.C k25 w A2_2 l2_2.length l2_2) (hc2_2 : l2_2.length ≤ c2_2) (h : sequentref04_WithConst.f k l0_0 l0_1 a1 a2_0 a2_1 l2_2 = some (r1, r2)) :
 Calls Try.prog 95 #[.agg #[.slice A0_0 l0_0.length c0_0, .slice A0_1 l0_1.length c0_1], .string a1, .agg #[.bool a2_0, .string a2_1, .slice A2_2 l2_2.length c2_2]] w fun e w' => ∃ v0_ v1_ : Value, e = .returned (.agg #[v0_, v1_]) ∧ Kd.R k124 124 w' w.heap.size (fun _ => True) v0_ r1 ∧ Kd.R k92 92 w' w.heap.size (fun _ => True) v1_ r2 ∧ Below w.heap.size w w' := by
 have hu81 := Try.underlying81
 have hu25 := Try.underlying25
 have hu92 := Try.underlying92
 have HR0_0 := Aside0.mk hr0_0
 have HC0_0 := Aside0.mk hc0_0
 clear hr0_0 hc0_0
 have HR0_1 := Aside0.mk hr0_1
 have HC0_1 := Aside0.mk hc0_1
 clear hr0_1 hc0_1
 have HR2_2 := Aside0.mk hr2_2
 have HC2_2 := Aside0.mk hc2_2
 clear hr2_2 hc2_2
 have HB := Aside0.mk (Below.refl w.heap.size w)
 have H : ((sequentref04_Twin.f k l0_0 l0_1).bind fun bt872 => ((sequentref01_Twin.f k a2_0 a2_1 l2_2).bind fun bt879 => (if bt872.2.length < 2199023255552 then (some (bt872.1, (bt872.2 ++ [(⟨a1, (⟨bt879.1, bt879.2.1, bt879.2.2⟩ : S25)⟩ : S92)]))) else (none)))) = some (r1, r2) := h
 clear h
 replace H := Option.bind_eq_some_iff.mp H
 obtain ⟨⟨t872, t875⟩, A40, H⟩ := H
 replace H : ((sequentref01_Twin.f k a2_0 a2_1 l2_2).bind fun bt879 => (if t875.length < 2199023255552 then (some (t872, (t875 ++ [(⟨a1, (⟨bt879.1, bt879.2.1, bt879.2.2⟩ : S25)⟩ : S92)]))) else (none))) = some (r1, r2) := H
 have A4 := Aside0.mk A40
 clear A40
 replace H := Option.bind_eq_some_iff.mp H
 obtain ⟨⟨t879, t880, t881⟩, A50, H⟩ := H
 replace H : (if t875.length < 2199023255552 then (some (t872, (t875 ++ [(⟨a1, (⟨t879, t880, t881⟩ : S25)⟩ : S92)]))) else (none)) = some (r1, r2) := H
 have A5 := Aside0.mk A50
 clear A50
 by_cases c6 : t875.length < 2199023255552
 ·rw [if_pos c6] at H
  have LMc6 := Aside0.mk c6
  clear c6
  obtain ⟨y884, hy884⟩ : ∃ y_ : List (S92), y_ = (t875 ++ [(⟨a1, (⟨t879, t880, t881⟩ : S25)⟩ : S92)]) := ⟨_, rfl⟩
  replace H : (some (t872, y884)) = some (r1, r2) := by first | (rw [hy884]; with_reducible exact H) | (have H2_ := (Option.bind_some _ _).symm.trans H; rw [hy884]; with_reducible exact H2_) | (have H2_ := (Option.bind_some _ _).symm.trans H; with_reducible exact H2_) | with_reducible exact H | (rw [hy884]; exact H) | exact H
  have Ny884 := Aside0.mk hy884
  clear hy884
  simp only [Option.some.injEq, Prod.mk.injEq] at H
  obtain ⟨rfl, rfl⟩ := H
  go_enter Try.func95, Try.ntmps95
  try go_wp2_with (first | ((with_reducible refine gate_dst (N := 3) rfl ?_); refine box_event ?hg (N := 3) ?hd (cs := #[.slice A0_0 l0_0.length c0_0, .slice A0_1 l0_1.length c0_1]) (t := 81) ?hr ?_; (case hd => rfl); (case hg => rfl); (case hr => first | (go_simp; done) | (go_simp; rfl)); intro gb869 hg w7 hbox hb; have n0_ := Aside0.mk (below_step bel_ hb); have n1_ := Aside0.mk (hbox); have n2_ := Aside0.mk ((by rw [hg]; exact (below_size bel_) : w.heap.size ≤ gb869)); have n3_ := Aside0.mk ((by rw [hg]; exact (below_size bel_) : w.heap.size ≤ gb869)); clear HB; have HB := n0_; have BK869 := n1_; have GW869 := n2_; have GE869 := n3_; clear n0_ n1_ n2_ n3_; clear hb hbox hg) | ((with_reducible refine gate_dst (N := 5) rfl ?_); refine box_event ?hg (N := 5) ?hd (cs := #[.bool a2_0, .string a2_1, .slice A2_2 l2_2.length c2_2]) (t := 25) ?hr ?_; (case hd => rfl); (case hg => rfl); (case hr => first | (go_simp; done) | (go_simp; rfl)); intro gb870 hg w8 hbox hb; have n0_ := Aside0.mk (blk_below (g := gb869) (o := .cells #[.slice A0_0 l0_0.length c0_0, .slice A0_1 l0_1.length c0_1] 81 (0, 0)) (bk_ BK869) hb); have n1_ := Aside0.mk (below_step bel_ hb); have n2_ := Aside0.mk (hbox); have n3_ := Aside0.mk ((by rw [hg]; exact (below_size bel_) : w.heap.size ≤ gb870)); have n4_ := Aside0.mk ((by rw [hg]; exact (below_size bel_) : w.heap.size ≤ gb870)); have n5_ := Aside0.mk ((by rw [hg]; exact Nat.ne_of_lt (blk_lt (g := gb869) (o := .cells #[.slice A0_0 l0_0.length c0_0, .slice A0_1 l0_1.length c0_1] 81 (0, 0)) (bk_ BK869)) : gb869 ≠ gb870)); have n6_ := Aside0.mk ((by rw [hg]; exact Nat.ne_of_gt (blk_lt (g := gb869) (o := .cells #[.slice A0_0 l0_0.length c0_0, .slice A0_1 l0_1.length c0_1] 81 (0, 0)) (bk_ BK869)) : gb870 ≠ gb869)); clear BK869; clear HB; have BK869 := n0_; have HB := n1_; have BK870 := n2_; have GW870 := n3_; have GE870 := n4_; have NB869_870 := n5_; have NB870_869 := n6_; clear n0_ n1_ n2_ n3_ n4_ n5_ n6_; clear hb hbox hg) | ((with_reducible refine gate_dst (N := 6) rfl ?_); refine box_event ?hg (N := 6) ?hd (cs := #[.slice none 0 0, .slice none 0 0]) (t := 81) ?hr ?_; (case hd => rfl); (case hg => rfl); (case hr => first | (go_simp; done) | (go_simp; rfl)); intro gb871 hg w9 hbox hb; have n0_ := Aside0.mk (blk_below (g := gb869) (o := .cells #[.slice A0_0 l0_0.length c0_0, .slice A0_1 l0_1.length c0_1] 81 (0, 0)) (bk_ BK869) hb); have n1_ := Aside0.mk (blk_below (g := gb870) (o := .cells #[.bool a2_0, .string a2_1, .slice A2_2 l2_2.length c2_2] 25 (0, 0)) (bk_ BK870) hb); have n2_ := Aside0.mk (below_step bel_ hb); have n3_ := Aside0.mk (hbox); have n4_ := Aside0.mk ((by rw [hg]; exact (below_size bel_) : w.heap.size ≤ gb871)); have n5_ := Aside0.mk ((by rw [hg]; exact (below_size bel_) : w.heap.size ≤ gb871)); have n6_ := Aside0.mk ((by rw [hg]; exact Nat.ne_of_lt (blk_lt (g := gb869) (o := .cells #[.slice A0_0 l0_0.length c0_0, .slice A0_1 l0_1.length c0_1] 81 (0, 0)) (bk_ BK869)) : gb869 ≠ gb871)); have n7_ := Aside0.mk ((by rw [hg]; exact Nat.ne_of_gt (blk_lt (g := gb869) (o := .cells #[.slice A0_0 l0_0.length c0_0, .slice A0_1 l0_1.length c0_1] 81 (0, 0)) (bk_ BK869)) : gb871 ≠ gb869)); have n8_ := Aside0.mk ((by rw [hg]; exact Nat.ne_of_lt (blk_lt (g := gb870) (o := .cells #[.bool a2_0, .string a2_1, .slice A2_2 l2_2.length c2_2] 25 (0, 0)) (bk_ BK870)) : gb870 ≠ gb871)); have n9_ := Aside0.mk ((by rw [hg]; exact Nat.ne_of_gt (blk_lt (g := gb870) (o := .cells #[.bool a2_0, .string a2_1, .slice A2_2 l2_2.length c2_2] 25 (0, 0)) (bk_ BK870)) : gb871 ≠ gb870)); clear BK869; clear BK870; clear HB; have BK869 := n0_; have BK870 := n1_; have HB := n2_; have BK871 := n3_; have GW871 := n4_; have GE871 := n5_; have NB869_871 := n6_; have NB871_869 := n7_; have NB870_871 := n8_; have NB871_870 := n9_; clear n0_ n1_ n2_ n3_ n4_ n5_ n6_ n7_ n8_ n9_; clear hb hbox hg; have hnb10 := NB869_870.out; have hnc10 := NB870_869.out; have hnb11 := NB869_871.out; have hnc11 := NB871_869.out; have hcz12_0 : w9.cell? ⟨gb869, 0, none⟩ = some (.slice A0_0 l0_0.length c0_0) := (blk_cell BK869.out 0).trans rfl; have hcz12_1 : w9.cell? ⟨gb869, 1, none⟩ = some (.slice A0_1 l0_1.length c0_1) := (blk_cell BK869.out 1).trans rfl; have hfz12_0 := blk_frozen BK869.out 0; have hfz12_1 := blk_frozen BK869.out 1) | ((with_reducible refine gate_callee (f := 50) rfl ?_); refine goesL_ (some 9) rfl rfl Try.func50 (by kernel_rfl) rfl #[.agg #[.slice A0_0 l0_0.length c0_0, .slice A0_1 l0_1.length c0_1]] rfl (by (try simp only [List.map_toArray, List.map_cons, List.map_nil]); first | done | rfl | (simp only [List.length_drop, List.length_take]; rfl)) ?_; (with_reducible refine (sequentref04_Twin.calls k _ _ l0_0 _ _ l0_1 t872 t875 _ ?side1 ?side2 ?side3 ?side4 A4.out).mono ?_); (case side1 => repeat (first | exact (Kd.C_below HR0_0.out HB.out) | (with_reducible refine Kd.C_alloc ?_ _) | (with_reducible refine Kd.C_drewN ?_ _) | (with_reducible refine Kd.C_drew ?_))); (case side2 => exact HC0_0.out); (case side3 => repeat (first | exact (Kd.C_below HR0_1.out HB.out) | (with_reducible refine Kd.C_alloc ?_ _) | (with_reducible refine Kd.C_drewN ?_ _) | (with_reducible refine Kd.C_drew ?_))); (case side4 => exact HC0_1.out); rintro e w13 ⟨v873, v876, rfl, ho0, ho1, hb⟩; refine ⟨_, rfl, ?_⟩; have n0_ := Aside0.mk (Kd.R_lower ho0 (below_size bel_)); have n1_ := Aside0.mk (Kd.R_lower (Kd.R_newB ho1 (g := gb870) (o := .cells #[.bool a2_0, .string a2_1, .slice A2_2 l2_2.length c2_2] 25 (0, 0)) (bk_ BK870)) (below_size bel_)); have n2_ := Aside0.mk (blk_below (g := gb869) (o := .cells #[.slice A0_0 l0_0.length c0_0, .slice A0_1 l0_1.length c0_1] 81 (0, 0)) (bk_ BK869) hb); have n3_ := Aside0.mk (blk_below (g := gb870) (o := .cells #[.bool a2_0, .string a2_1, .slice A2_2 l2_2.length c2_2] 25 (0, 0)) (bk_ BK870) hb); have n4_ := Aside0.mk (blk_below (g := gb871) (o := .cells #[.slice none 0 0, .slice none 0 0] 81 (0, 0)) (bk_ BK871) hb); have n5_ := Aside0.mk (below_step bel_ hb); clear BK869; clear BK870; clear BK871; clear HB; have HO874 := n0_; have HO877 := n1_; have BK869 := n2_; have BK870 := n3_; have BK871 := n4_; have HB := n5_; clear n0_ n1_ n2_ n3_ n4_ n5_; (try clear hb); (try clear hb2); (try clear hk); (try clear hi); (try clear ho0); (try clear ho1)) | ((with_reducible refine gate_dst (N := 7) rfl ?_); refine box_event ?hg (N := 7) ?hd (cs := #[.slice none 0 0, .slice none 0 0]) (t := 81) ?hr ?_; (case hd => rfl); (case hg => rfl); (case hr => first | (go_simp; done) | (go_simp; rfl)); intro gb878 hg w14 hbox hb; have n0_ := Aside0.mk (Kd.R_below (by (with_reducible repeat (first | apply Kd.R_alloc | apply Kd.R_drewN | apply Kd.R_drew)); exact HO874.out) hb); have n1_ := Aside0.mk (Kd.R_below (by (with_reducible repeat (first | apply Kd.R_alloc | apply Kd.R_drewN | apply Kd.R_drew)); exact HO877.out) hb); have n2_ := Aside0.mk (blk_below (g := gb869) (o := .cells #[.slice A0_0 l0_0.length c0_0, .slice A0_1 l0_1.length c0_1] 81 (0, 0)) (bk_ BK869) hb); have n3_ := Aside0.mk (blk_below (g := gb870) (o := .cells #[.bool a2_0, .string a2_1, .slice A2_2 l2_2.length c2_2] 25 (0, 0)) (bk_ BK870) hb); have n4_ := Aside0.mk (blk_below (g := gb871) (o := .cells #[.slice none 0 0, .slice none 0 0] 81 (0, 0)) (bk_ BK871) hb); have n5_ := Aside0.mk (below_step bel_ hb); have n6_ := Aside0.mk (hbox); have n7_ := Aside0.mk ((by rw [hg]; exact (below_size bel_) : w.heap.size ≤ gb878)); have n8_ := Aside0.mk ((by rw [hg]; exact (below_size bel_) : w.heap.size ≤ gb878)); have n9_ := Aside0.mk ((by rw [hg]; exact Nat.ne_of_lt (blk_lt (g := gb869) (o := .cells #[.slice A0_0 l0_0.length c0_0, .slice A0_1 l0_1.length c0_1] 81 (0, 0)) (bk_ BK869)) : gb869 ≠ gb878)); have n10_ := Aside0.mk ((by rw [hg]; exact Nat.ne_of_gt (blk_lt (g := gb869) (o := .cells #[.slice A0_0 l0_0.length c0_0, .slice A0_1 l0_1.length c0_1] 81 (0, 0)) (bk_ BK869)) : gb878 ≠ gb869)); have n11_ := Aside0.mk ((by rw [hg]; exact Nat.ne_of_lt (blk_lt (g := gb870) (o := .cells #[.bool a2_0, .string a2_1, .slice A2_2 l2_2.length c2_2] 25 (0, 0)) (bk_ BK870)) : gb870 ≠ gb878)); have n12_ := Aside0.mk ((by rw [hg]; exact Nat.ne_of_gt (blk_lt (g := gb870) (o := .cells #[.bool a2_0, .string a2_1, .slice A2_2 l2_2.length c2_2] 25 (0, 0)) (bk_ BK870)) : gb878 ≠ gb870)); have n13_ := Aside0.mk ((by rw [hg]; exact Nat.ne_of_lt (blk_lt (g := gb871) (o := .cells #[.slice none 0 0, .slice none 0 0] 81 (0, 0)) (bk_ BK871)) : gb871 ≠ gb878)); have n14_ := Aside0.mk ((by rw [hg]; exact Nat.ne_of_gt (blk_lt (g := gb871) (o := .cells #[.slice none 0 0, .slice none 0 0] 81 (0, 0)) (bk_ BK871)) : gb878 ≠ gb871)); clear HO874; clear HO877; clear BK869; clear BK870; clear BK871; clear HB; have HO874 := n0_; have HO877 := n1_; have BK869 := n2_; have BK870 := n3_; have BK871 := n4_; have HB := n5_; have BK878 := n6_; have GW878 := n7_; have GE878 := n8_; have NB869_878 := n9_; have NB878_869 := n10_; have NB870_878 := n11_; have NB878_870 := n12_; have NB871_878 := n13_; have NB878_871 := n14_; clear n0_ n1_ n2_ n3_ n4_ n5_ n6_ n7_ n8_ n9_ n10_ n11_ n12_ n13_ n14_; clear hb hbox hg; obtain ⟨Ao15, co15, eo15⟩ := Kd.R_slice HO874.out; subst eo15; have hnb16 := NB878_869.out; have hnc16 := NB869_878.out; have hnb17 := NB878_870.out; have hnc17 := NB870_878.out; have hnb18 := NB878_871.out; have hnc18 := NB871_878.out; have hcz19_0 : w14.cell? ⟨gb878, 0, none⟩ = some (.slice none 0 0) := (blk_cell BK878.out 0).trans rfl; have hcz19_1 : w14.cell? ⟨gb878, 1, none⟩ = some (.slice none 0 0) := (blk_cell BK878.out 1).trans rfl; have hfz19_0 := blk_frozen BK878.out 0; have hfz19_1 := blk_frozen BK878.out 1; obtain ⟨Ao20, co20, eo20⟩ := Kd.R_slice HO877.out; subst eo20))
  have n0_ : Aside0 (Kd.R k124 124 ((w14.setCell ⟨gb878, 0, none⟩ (.slice Ao15 t872.length co15)).setCell ⟨gb878, 1, none⟩ (.slice Ao20 t875.length co20)) w.heap.size (fun _ => True) (.slice Ao15 t872.length co15) t872) := ⟨by (with_reducible repeat (first | apply Kd.R_alloc | apply Kd.R_drewN | apply Kd.R_drew)); exact Kd.R_mono (Kd.R_far (p := ⟨gb878, 1, none⟩) (Kd.R_far (p := ⟨gb878, 0, none⟩) (Kd.R_types HO874.out BK878.out (by decide)) (fun _ hk => hk.2) (.slice Ao15 t872.length co15)) (fun _ hk => hk.2) (.slice Ao20 t875.length co20)) (fun _ hk => trivial)⟩
  have n1_ : Aside0 (Kd.R k92 92 ((w14.setCell ⟨gb878, 0, none⟩ (.slice Ao15 t872.length co15)).setCell ⟨gb878, 1, none⟩ (.slice Ao20 t875.length co20)) w.heap.size (fun k_ => k_ ≠ gb870) (.slice Ao20 t875.length co20) t875) := ⟨by (with_reducible repeat (first | apply Kd.R_alloc | apply Kd.R_drewN | apply Kd.R_drew)); exact Kd.R_mono (Kd.R_far (p := ⟨gb878, 1, none⟩) (Kd.R_far (p := ⟨gb878, 0, none⟩) (Kd.R_types HO877.out BK878.out (by decide)) (fun _ hk => hk.2) (.slice Ao15 t872.length co15)) (fun _ hk => hk.2) (.slice Ao20 t875.length co20)) (fun _ hk => hk.1.2)⟩
  have n2_ : Aside0 (((w14.setCell ⟨gb878, 0, none⟩ (.slice Ao15 t872.length co15)).setCell ⟨gb878, 1, none⟩ (.slice Ao20 t875.length co20)).heap[gb869]? = some (.cells #[.slice A0_0 l0_0.length c0_0, .slice A0_1 l0_1.length c0_1] 81 (0, 0))) := ⟨by (with_reducible repeat (first | refine blk_drewN ?_ _ | refine blk_drew ?_ | refine blk_alloc ?_ _)); refine blk_far ?_ NB869_878.out _; (with_reducible repeat (first | refine blk_drewN ?_ _ | refine blk_drew ?_ | refine blk_alloc ?_ _)); refine blk_far ?_ NB869_878.out _; (with_reducible repeat (first | refine blk_drewN ?_ _ | refine blk_drew ?_ | refine blk_alloc ?_ _)); exact BK869.out⟩
  have n3_ : Aside0 (((w14.setCell ⟨gb878, 0, none⟩ (.slice Ao15 t872.length co15)).setCell ⟨gb878, 1, none⟩ (.slice Ao20 t875.length co20)).heap[gb870]? = some (.cells #[.bool a2_0, .string a2_1, .slice A2_2 l2_2.length c2_2] 25 (0, 0))) := ⟨by (with_reducible repeat (first | refine blk_drewN ?_ _ | refine blk_drew ?_ | refine blk_alloc ?_ _)); refine blk_far ?_ NB870_878.out _; (with_reducible repeat (first | refine blk_drewN ?_ _ | refine blk_drew ?_ | refine blk_alloc ?_ _)); refine blk_far ?_ NB870_878.out _; (with_reducible repeat (first | refine blk_drewN ?_ _ | refine blk_drew ?_ | refine blk_alloc ?_ _)); exact BK870.out⟩
  have n4_ : Aside0 (((w14.setCell ⟨gb878, 0, none⟩ (.slice Ao15 t872.length co15)).setCell ⟨gb878, 1, none⟩ (.slice Ao20 t875.length co20)).heap[gb871]? = some (.cells #[.slice none 0 0, .slice none 0 0] 81 (0, 0))) := ⟨by (with_reducible repeat (first | refine blk_drewN ?_ _ | refine blk_drew ?_ | refine blk_alloc ?_ _)); refine blk_far ?_ NB871_878.out _; (with_reducible repeat (first | refine blk_drewN ?_ _ | refine blk_drew ?_ | refine blk_alloc ?_ _)); refine blk_far ?_ NB871_878.out _; (with_reducible repeat (first | refine blk_drewN ?_ _ | refine blk_drew ?_ | refine blk_alloc ?_ _)); exact BK871.out⟩
  have n5_ : Aside0 (((w14.setCell ⟨gb878, 0, none⟩ (.slice Ao15 t872.length co15)).setCell ⟨gb878, 1, none⟩ (.slice Ao20 t875.length co20)).heap[gb878]? = some (.cells #[.slice Ao15 t872.length co15, .slice Ao20 t875.length co20] 81 (0, 0))) := ⟨by (with_reducible repeat (first | refine blk_drewN ?_ _ | refine blk_drew ?_ | refine blk_alloc ?_ _)); refine blk_put (cs := #[.slice Ao15 t872.length co15, .slice none 0 0]) ?_ 1 _ rfl; (with_reducible repeat (first | refine blk_drewN ?_ _ | refine blk_drew ?_ | refine blk_alloc ?_ _)); refine blk_put (cs := #[.slice none 0 0, .slice none 0 0]) ?_ 0 _ rfl; (with_reducible repeat (first | refine blk_drewN ?_ _ | refine blk_drew ?_ | refine blk_alloc ?_ _)); exact BK878.out⟩
  have n6_ : Aside0 (Below w.heap.size w ((w14.setCell ⟨gb878, 0, none⟩ (.slice Ao15 t872.length co15)).setCell ⟨gb878, 1, none⟩ (.slice Ao20 t875.length co20))) := ⟨bel_⟩
  (try clear HO874)
  (try clear HO877)
  (try clear BK869)
  (try clear BK870)
  (try clear BK871)
  (try clear BK878)
  (try clear HB)
  generalize ((w14.setCell ⟨gb878, 0, none⟩ (.slice Ao15 t872.length co15)).setCell ⟨gb878, 1, none⟩ (.slice Ao20 t875.length co20)) = w21 at n0_ n1_ n2_ n3_ n4_ n5_ n6_ ⊢
  have HO874 := n0_
  have HO877 := n1_
  have BK869 := n2_
  have BK870 := n3_
  have BK871 := n4_
  have BK878 := n5_
  have HB := n6_
  clear n0_ n1_ n2_ n3_ n4_ n5_ n6_
  have n0_ := Aside0.mk (Kd.R_drew HO874.out)
  have n1_ := Aside0.mk (Kd.R_drew HO877.out)
  have n2_ := Aside0.mk (blk_drew BK869.out)
  have n3_ := Aside0.mk (blk_drew BK870.out)
  have n4_ := Aside0.mk (blk_drew BK871.out)
  have n5_ := Aside0.mk (blk_drew BK878.out)
  have n6_ := Aside0.mk (below_drew1 HB.out)
  clear HO874
  clear HO877
  clear BK869
  clear BK870
  clear BK871
  clear BK878
  clear HB
  have HO874 := n0_
  have HO877 := n1_
  have BK869 := n2_
  have BK870 := n3_
  have BK871 := n4_
  have BK878 := n5_
  have HB := n6_
  clear n0_ n1_ n2_ n3_ n4_ n5_ n6_
  refine start_ (n := 10) (S := fun w' => w'.cell? ⟨gb878, 0, none⟩ = some (.slice Ao15 t872.length co15) ∧ w'.cell? ⟨gb878, 1, none⟩ = some (.slice Ao20 t875.length co20) ∧ w'.cell? ⟨gb870, 0, none⟩ = some (.bool a2_0) ∧ w'.cell? ⟨gb870, 1, none⟩ = some (.string a2_1) ∧ w'.cell? ⟨gb870, 2, none⟩ = some (.slice A2_2 l2_2.length c2_2)) (ds := [9]) #[false, false, false, false, false, false, false, false, false, false] (by kernel_rfl) rfl rfl ⟨(blk_cell BK878.out 0).trans rfl, (blk_cell BK878.out 1).trans rfl, (blk_cell BK870.out 0).trans rfl, (blk_cell BK870.out 1).trans rfl, (blk_cell BK870.out 2).trans rfl⟩ (fun hHeld => ?_); refine with_tabW sequentref04_WithConst.tab2 sequentref04_WithConst.bits2 (fun HT_ HW_ => ?_)
  generalize w21.drew = w22 at HO874 HO877 BK869 BK870 BK871 BK878 HB hHeld ⊢
  refine pure_ (i := 0) (N := some 10) (v := ?_) (a' := ?_) #[true, false, false, false, false, false, false, false, false, false] rfl rfl (any_of HT_.out (by kernel_rfl)) (fun _ _ _ h => h) (Or.inl ⟨by rfl, ?_⟩) ?_ ?_
  rotate_left
  ·intro w'
   go_simp
   with_reducible rfl
  rotate_left
  ·simp only [Act.put, List.setIfInBounds_toArray, List.set_cons_zero, List.set_cons_succ, i64_w, i32_w]
   rfl
  refine pure_ (i := 2) (N := some 12) (v := ?_) (a' := ?_) #[true, false, true, false, false, false, false, false, false, false] rfl rfl (any_of HT_.out (by kernel_rfl)) (fun _ _ _ h => h) (Or.inl ⟨by rfl, ?_⟩) ?_ ?_
  rotate_left
  ·intro w'
   go_simp
   with_reducible rfl
  rotate_left
  ·simp only [Act.put, List.setIfInBounds_toArray, List.set_cons_zero, List.set_cons_succ, i64_w, i32_w]
   rfl
  refine take_ (i := 1) (N := some 11) (v := ?_) (a' := ?_) #[true, true, true, false, false, false, false, false, false, false] rfl rfl (take_ofW HT_.out HW_.out (by kernel_rfl)) (fun _ _ _ h => h) (Or.inl ⟨by rfl, ?_⟩) hHeld ?_ ?_
  rotate_left
  ·rintro w' ⟨s0, s1, s2, s3, s4⟩
   go_simp
   with_reducible rfl
  rotate_left
  ·simp only [Act.put, List.setIfInBounds_toArray, List.set_cons_zero, List.set_cons_succ, i64_w, i32_w]
   rfl
  refine take_ (i := 3) (N := some 13) (v := ?_) (a' := ?_) #[true, true, true, true, false, false, false, false, false, false] rfl rfl (take_ofW HT_.out HW_.out (by kernel_rfl)) (fun _ _ _ h => h) (Or.inl ⟨by rfl, ?_⟩) hHeld ?_ ?_
  rotate_left
  ·rintro w' ⟨s0, s1, s2, s3, s4⟩
   go_simp
   with_reducible rfl
  rotate_left
  ·simp only [Act.put, List.setIfInBounds_toArray, List.set_cons_zero, List.set_cons_succ, i64_w, i32_w]
   rfl
  refine one_ (i := 4) (N := some 14) #[true, true, true, true, true, false, false, false, false, false] rfl rfl (one_of HT_.out (by kernel_rfl)) (by decide) (fun K hK => ?_)
  refine goes_ Try.func15 (by kernel_rfl) rfl #[.agg #[.bool a2_0, .string a2_1, .slice A2_2 l2_2.length c2_2]] (by rfl) rfl rfl (by (try simp only [List.map_toArray, List.map_cons, List.map_nil]); first | done | rfl | (simp only [List.length_drop, List.length_take]; rfl)) ?_
  with_reducible refine (sequentref01_Twin.calls k a2_0 a2_1 _ _ l2_2 t879 t880 t881 _ ?side1 ?side2 A5.out).mono ?_
  (case side1 => repeat (first | exact (Kd.C_below HR2_2.out HB.out) | (with_reducible refine Kd.C_alloc ?_ _) | (with_reducible refine Kd.C_drewN ?_ _) | (with_reducible refine Kd.C_drew ?_)))
  (case side2 => exact HC2_2.out)
  rintro e w23 ⟨v882, rfl, ho0, hb⟩
  refine ⟨_, rfl, ?_⟩
  have n0_ := Aside0.mk (Kd.R_below (by (with_reducible repeat (first | apply Kd.R_alloc | apply Kd.R_drewN | apply Kd.R_drew)); exact HO874.out) hb)
  have n1_ := Aside0.mk (Kd.R_elder' (by (with_reducible repeat (first | apply Kd.R_alloc | apply Kd.R_drewN | apply Kd.R_drew)); exact HO877.out) (Kd.R_base ho0) hb)
  have n2_ := Aside0.mk (Kd.R_lower (Kd.R_newB ho0 (g := gb870) (o := .cells #[.bool a2_0, .string a2_1, .slice A2_2 l2_2.length c2_2] 25 (0, 0)) (bk_ BK870)) (below_size bel_))
  have n3_ := Aside0.mk (blk_below (g := gb869) (o := .cells #[.slice A0_0 l0_0.length c0_0, .slice A0_1 l0_1.length c0_1] 81 (0, 0)) (bk_ BK869) hb)
  have n4_ := Aside0.mk (blk_below (g := gb870) (o := .cells #[.bool a2_0, .string a2_1, .slice A2_2 l2_2.length c2_2] 25 (0, 0)) (bk_ BK870) hb)
  have n5_ := Aside0.mk (blk_below (g := gb871) (o := .cells #[.slice none 0 0, .slice none 0 0] 81 (0, 0)) (bk_ BK871) hb)
  have n6_ := Aside0.mk (blk_below (g := gb878) (o := .cells #[.slice Ao15 t872.length co15, .slice Ao20 t875.length co20] 81 (0, 0)) (bk_ BK878) hb)
  have n7_ := Aside0.mk (below_step bel_ hb)
  clear HO874
  clear HO877
  clear BK869
  clear BK870
  clear BK871
  clear BK878
  clear HB
  have HO874 := n0_
  have HO877 := n1_
  have HO883 := n2_
  have BK869 := n3_
  have BK870 := n4_
  have BK871 := n5_
  have BK878 := n6_
  have HB := n7_
  clear n0_ n1_ n2_ n3_ n4_ n5_ n6_ n7_
  (try clear hb)
  (try clear hb2)
  (try clear hk)
  (try clear hi)
  (try clear ho0)
  obtain ⟨Ao24, co24, eo24⟩ := Kd.R_slice HO883.out
  (first | subst eo24 | (injection eo24 with f1_ f2_ f3_; have f4_ := f1_.symm; have f5_ := f3_.symm; clear f1_ f2_ f3_; subst f4_; subst f5_))
  refine hK.out _ _ ⟨(blk_cell BK878.out 0).trans rfl, (blk_cell BK878.out 1).trans rfl, (blk_cell BK870.out 0).trans rfl, (blk_cell BK870.out 1).trans rfl, (blk_cell BK870.out 2).trans rfl⟩ (fun hHeld => ?_)
  clear hK K
  refine norm_ (a' := ?_) ?_ ?_
  rotate_left
  ·show Act.put _ (some 14) _ = _
   simp only [Act.put, List.setIfInBounds_toArray, List.set_cons_zero, List.set_cons_succ, i64_w, i32_w]
   rfl
  refine pure_ (i := 5) (N := some 15) (v := ?_) (a' := ?_) #[true, true, true, true, true, true, false, false, false, false] rfl rfl (any_of HT_.out (by kernel_rfl)) (fun _ _ _ h => h) (Or.inl ⟨by rfl, ?_⟩) ?_ ?_
  rotate_left
  ·intro w'
   go_simp
   with_reducible rfl
  rotate_left
  ·simp only [Act.put, List.setIfInBounds_toArray, List.set_cons_zero, List.set_cons_succ, i64_w, i32_w]
   rfl
  refine one_ (i := 6) (N := some 16) #[true, true, true, true, true, true, true, false, false, false] rfl rfl (one_of HT_.out (by kernel_rfl)) (by decide) (fun K hK => ?_)
  refine value_ (w1 := ?_) (v := ?_) (by rfl) rfl ?_ ?_
  rotate_left 2
  ·go_simp
   constructor
   ·rfl
   ·rfl
  refine hK.out _ _ ⟨(blk_cell (blk_alloc BK878.out _) 0).trans rfl, (blk_cell (blk_alloc BK878.out _) 1).trans rfl, (blk_cell (blk_alloc BK870.out _) 0).trans rfl, (blk_cell (blk_alloc BK870.out _) 1).trans rfl, (blk_cell (blk_alloc BK870.out _) 2).trans rfl⟩ (fun hHeld => ?_)
  clear hK K
  refine norm_ (a' := ?_) ?_ ?_
  rotate_left
  ·show Act.put _ (some 16) _ = _
   simp only [Act.put, List.setIfInBounds_toArray, List.set_cons_zero, List.set_cons_succ, i64_w, i32_w]
   rfl
  refine one_ (i := 7) (N := some 17) #[true, true, true, true, true, true, true, true, false, false] rfl rfl (one_of HT_.out (by kernel_rfl)) (by decide) (fun K hK => ?_)
  refine Kd.R_append_step k92 (w0 := w) w.heap.size (by rfl) (.tmp 11) (.tmp 16) 79 92 (.agg #[(.string ⟨#[]⟩), (.bool false), (.string ⟨#[]⟩), (.slice none 0 0)]) 64 rfl Try.underlying79 info92 rfl (by decide) (by omega) (.slice Ao20 t875.length co20) t875 (⟨a1, (⟨t879, t880, t881⟩ : S25)⟩ : S92) [.string a1, .bool t879, .string t880, .slice Ao24 t881.length co24] (fun k_ => k_ ≠ gb870) (fun k_ => ((fun k_ => k_ ≠ gb870)) k_ ∧ some k_ ≠ (.slice Ao20 t875.length co20 : Value).ownBlock) rfl rfl ?aP (fun _ hk => hk) ?aF ?aO ?aB ?aS ?aL ?_
  (case aP => exact k92_mkM _ _ _ (⟨a1, (⟨t879, t880, t881⟩ : S25)⟩ : S92) (Kd.R_mono (Kd.R_apart' (HO883.out) (Kd.R_typed HO877.out) (by decide)) (fun k_ hk => ⟨hk.1.2, hk.2⟩)))
  (case aB => exact bel_)
  (case aF => exact (fun k_ hk => Kd.freshB (g := gb870) (o := .cells #[.bool a2_0, .string a2_1, .slice A2_2 l2_2.length c2_2] 25 (0, 0)) (bk_ BK870) k_ hk))
  (case aO => exact (by (with_reducible repeat (first | apply Kd.R_alloc | apply Kd.R_drewN | apply Kd.R_drew)); exact Kd.R_mono HO877.out (fun _ hk => hk.1)))
  (case aS => exact (below_size bel_))
  (case aL => have := LMc6.out; omega)
  intro v885 w25 ho hb hg hat
  rw [← Ny884.out] at ho
  have n0_ := Aside0.mk (blk_grown (g := gb869) (o := .cells #[.slice A0_0 l0_0.length c0_0, .slice A0_1 l0_1.length c0_1] 81 (0, 0)) (bk_ BK869) hg (Kd.R_ne HO877.out BK869.out (by decide)))
  have n1_ := Aside0.mk (blk_grown (g := gb870) (o := .cells #[.bool a2_0, .string a2_1, .slice A2_2 l2_2.length c2_2] 25 (0, 0)) (bk_ BK870) hg (Kd.R_ne HO877.out BK870.out (by decide)))
  have n2_ := Aside0.mk (blk_grown (g := gb871) (o := .cells #[.slice none 0 0, .slice none 0 0] 81 (0, 0)) (bk_ BK871) hg (Kd.R_ne HO877.out BK871.out (by decide)))
  have n3_ := Aside0.mk (Kd.R_over' (by (with_reducible repeat (first | apply Kd.R_alloc | apply Kd.R_drewN | apply Kd.R_drew)); exact HO874.out) (Kd.R_typed (by (with_reducible repeat (first | apply Kd.R_alloc | apply Kd.R_drewN | apply Kd.R_drew)); exact HO877.out)) (by decide) hg)
  have n4_ := Aside0.mk (blk_grown (g := gb878) (o := .cells #[.slice Ao15 t872.length co15, .slice Ao20 t875.length co20] 81 (0, 0)) (bk_ BK878) hg (Kd.R_ne HO877.out BK878.out (by decide)))
  have n5_ := Aside0.mk (hb)
  have n6_ := Aside0.mk (ho)
  clear BK869
  clear BK870
  clear BK871
  clear HO874
  clear BK878
  clear HB
  clear HO877
  clear HO883
  have BK869 := n0_
  have BK870 := n1_
  have BK871 := n2_
  have HO874 := n3_
  have BK878 := n4_
  have HB := n5_
  have HO886 := n6_
  clear n0_ n1_ n2_ n3_ n4_ n5_ n6_
  clear ho hb hg hat
  obtain ⟨Ao26, co26, eo26⟩ := Kd.R_slice HO886.out
  (first | subst eo26 | (injection eo26 with f1_ f2_ f3_; have f4_ := f1_.symm; have f5_ := f3_.symm; clear f1_ f2_ f3_; subst f4_; subst f5_))
  refine hK.out _ _ ⟨(blk_cell BK878.out 0).trans rfl, (blk_cell BK878.out 1).trans rfl, (blk_cell BK870.out 0).trans rfl, (blk_cell BK870.out 1).trans rfl, (blk_cell BK870.out 2).trans rfl⟩ (fun hHeld => ?_)
  clear hK K
  refine norm_ (a' := ?_) ?_ ?_
  rotate_left
  ·show Act.put _ (some 17) _ = _
   simp only [Act.put, List.setIfInBounds_toArray, List.set_cons_zero, List.set_cons_succ, i64_w, i32_w]
   rfl
  refine pure_ (i := 8) (N := some 18) (v := ?_) (a' := ?_) #[true, true, true, true, true, true, true, true, true, false] rfl rfl (any_of HT_.out (by kernel_rfl)) (fun _ _ _ h => h) (Or.inl ⟨by rfl, ?_⟩) ?_ ?_
  rotate_left
  ·intro w'
   go_simp
   with_reducible rfl
  rotate_left
  ·simp only [Act.put, List.setIfInBounds_toArray, List.set_cons_zero, List.set_cons_succ, i64_w, i32_w]
   rfl
  refine last_ (i := 9) (N := none) #[true, true, true, true, true, true, true, true, true, true] rfl rfl (one_of HT_.out (by kernel_rfl)) (by decide) (fun K hK => ?_)
  have hs27 : w25.cell? ⟨gb878, 1, none⟩ = some (.slice Ao20 t875.length co20) := (blk_cell BK878.out 1).trans rfl
  have hfs27 := blk_frozen BK878.out 1
  have hns27_0 := NB869_878.out
  have hns27_1 := NB870_878.out
  have hns27_2 := NB871_878.out
  have hms27_0 := NB878_869.out
  have hms27_1 := NB878_870.out
  have hms27_2 := NB878_871.out
  refine skip_ (w1 := ?_) (by rfl) rfl ?_ ?_
  rotate_left
  ·go_simp
   rfl
  refine hK.out _ _ ?_
  clear hK K
  refine done_ (done_of HT_.out (by kernel_rfl)) ?_
  have hcz28_0 : w25.cell? ⟨gb878, 0, none⟩ = some (.slice Ao15 t872.length co15) := (blk_cell BK878.out 0).trans rfl
  have hcz28_1 : w25.cell? ⟨gb878, 1, none⟩ = some (.slice Ao20 t875.length co20) := (blk_cell BK878.out 1).trans rfl
  have hfz28_0 := blk_frozen BK878.out 0
  have hfz28_1 := blk_frozen BK878.out 1
  have hnb29 := NB871_870.out
  have hnc29 := NB870_871.out
  have hcz30_0 : w25.cell? ⟨gb871, 0, none⟩ = some (.slice none 0 0) := (blk_cell BK871.out 0).trans rfl
  have hcz30_1 : w25.cell? ⟨gb871, 1, none⟩ = some (.slice none 0 0) := (blk_cell BK871.out 1).trans rfl
  have hfz30_0 := blk_frozen BK871.out 0
  have hfz30_1 := blk_frozen BK871.out 1
  try go_wp2
  refine bodyPost_ret (results_cell_row rfl _ _ gb871 81 #[.slice Ao15 t872.length co15, .slice Ao26 y884.length co26] (0, 0) _ rfl (by (with_reducible repeat (first | refine blk_drewN ?_ _ | refine blk_drew ?_ | refine blk_alloc ?_ _)); refine blk_put (cs := #[.slice Ao15 t872.length co15, .slice none 0 0]) ?_ 1 _ rfl; (with_reducible repeat (first | refine blk_drewN ?_ _ | refine blk_drew ?_ | refine blk_alloc ?_ _)); refine blk_put (cs := #[.slice none 0 0, .slice none 0 0]) ?_ 0 _ rfl; (with_reducible repeat (first | refine blk_drewN ?_ _ | refine blk_drew ?_ | refine blk_alloc ?_ _)); refine blk_far ?_ NB871_878.out _; (with_reducible repeat (first | refine blk_drewN ?_ _ | refine blk_drew ?_ | refine blk_alloc ?_ _)); exact BK871.out) Try.underlying81 rfl (by kernel_rfl)) rfl ?_
  exact ⟨_, _, by first | rfl | (simp [errW_none, errW_some] <;> rfl) | (simp [*, errW_none, errW_some] <;> rfl), by (with_reducible repeat (first | apply Kd.R_alloc | apply Kd.R_drewN | apply Kd.R_drew)); exact Kd.R_mono (Kd.R_far (p := ⟨gb871, 1, none⟩) (Kd.R_far (p := ⟨gb871, 0, none⟩) (Kd.R_far (p := ⟨gb878, 1, none⟩) (Kd.R_types (Kd.R_types HO874.out BK878.out (by decide)) BK871.out (by decide)) (fun _ hk => hk.1.2) (.slice Ao26 y884.length co26)) (fun _ hk => hk.2) (.slice Ao15 t872.length co15)) (fun _ hk => hk.2) (.slice Ao26 y884.length co26)) (fun _ hk => trivial), by (with_reducible repeat (first | apply Kd.R_alloc | apply Kd.R_drewN | apply Kd.R_drew)); exact Kd.R_mono (Kd.R_far (p := ⟨gb871, 1, none⟩) (Kd.R_far (p := ⟨gb871, 0, none⟩) (Kd.R_far (p := ⟨gb878, 1, none⟩) (Kd.R_types (Kd.R_types HO886.out BK878.out (by decide)) BK871.out (by decide)) (fun _ hk => hk.1.2) (.slice Ao26 y884.length co26)) (fun _ hk => hk.2) (.slice Ao15 t872.length co15)) (fun _ hk => hk.2) (.slice Ao26 y884.length co26)) (fun _ hk => trivial), bel_⟩
 ·rw [if_neg c6] at H
  exact absurd H (by simp)

end Go.Proofs.Ytgnklkmifcmlhaa.Q
-- written by a program of this session (wip/tools/myprint.py) out of the translation
namespace Go.Proofs.Ytgnklkmifcmlhaa.Q
open Go.RowKit Go.Proofs.YtgnklkmifcmlhaaW.PrintWords Go.Proofs.YtgnklkmifcmlhaaW.PrintLast Go.Proofs.YtgnklkmifcmlhaaW.PrintMore
attribute [local go_sem] max2_int min2_int max_two min_two max_three min_three max_four min_four   -- for this text's walks alone
set_option linter.unusedVariables false
set_option linter.unusedSimpArgs false

theorem eqA124 (d : Nat) (w : World) (x0 y0 : ByteArray) (x1 y1 : Int) :
 (Op.equalIn (d + 2) 124 (.agg #[.string x0, .int .i64 x1]) (.agg #[.string y0, .int .i64 y1])).run Try.prog w = .ok (x0.toList == y0.toList && (x1 == y1)) w := by
 refine eqA_of Try.underlying124 (by kernel_rfl) ?_
 refine eqf_cons (by rfl) (by go_simp; rfl) (by go_simp; rfl) (by go_simp) ?_
 exact eqf_last (by rfl) (by go_simp; rfl) (by go_simp; rfl) (by go_simp)
end Go.Proofs.Ytgnklkmifcmlhaa.Q
