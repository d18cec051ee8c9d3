-- written by a program of this session (wip/tools/myprint.py) out of the translation
import Derived.Test.YtgnklkmifcmlhaaQ0
namespace Go.Proofs.Ytgnklkmifcmlhaa.Q
open Go.RowKit Go.Proofs.YtgnklkmifcmlhaaW.PrintWords Go.Proofs.YtgnklkmifcmlhaaW.PrintLast Go.Proofs.YtgnklkmifcmlhaaW.PrintMore
attribute [local go_sem] max2_int min2_int max_two min_two max_three min_three max_four min_four   -- for this text's walks alone
set_option linter.unusedVariables false
set_option linter.unusedSimpArgs false

/-! ### sequentref01_Of: function 104 -/
def sequentref01_Of.l0 : Nat → List (S59) → ByteArray → Int → Option (Bool × ByteArray × (List (S25)) × Bool)
  | 0, _, _, _ => none
  | k + 1, x0, x1, x6 => if x6 < (x0.length : Int) then (if 0 ≤ x6 then (if ((rd_T59 x0 x6).f0).toList = x1.toList then (some ((rd_T59 x0 x6).f1.f0, (rd_T59 x0 x6).f1.f1, (rd_T59 x0 x6).f1.f2, true)) else (sequentref01_Of.l0 k x0 x1 (wrap64 (x6 + 1)))) else (none)) else (some (true, x1, ([] : List (S25)), false))
def sequentref01_Of.f (k : Nat) (l0 : List (S59)) (a1 : ByteArray) : Option (Bool × ByteArray × (List (S25)) × Bool) := sequentref01_Of.l0 k l0 a1 0
theorem sequentref01_Of.mono_l : ∀ k, (∀ y0 y1 y2, LeO (sequentref01_Of.l0 k y0 y1 y2) (sequentref01_Of.l0 (k + 1) y0 y1 y2))
  | 0 => fun _ _ _ r h => by simp [sequentref01_Of.l0] at h
  | k + 1 => by
    have ih0 := sequentref01_Of.mono_l k
    · intro y0 y1 y2
      unfold sequentref01_Of.l0
      repeat' first
      | (with_reducible exact ih0 _ _ _)
      | (with_reducible exact LeO.refl _)
      | (with_reducible exact LeO.none _)
      | (with_reducible refine LeO.ite ?_ ?_)
      | (with_reducible refine LeO.bind ?_ (fun _ => ?_))
      | exact ih0 _ _ _
      | exact LeO.none _
      | refine LeO.ite ?_ ?_
      | refine LeO.bind ?_ (fun _ => ?_)
theorem sequentref01_Of.mono : ∀ a0 a1 k, LeO (sequentref01_Of.f k a0 a1) (sequentref01_Of.f (k + 1) a0 a1) := by
  intro a0 a1 k
  have ih0 := sequentref01_Of.mono_l k
  unfold sequentref01_Of.f
  repeat' first
      | (with_reducible exact ih0 _ _ _)
      | (with_reducible exact LeO.refl _)
      | (with_reducible exact LeO.none _)
      | (with_reducible refine LeO.ite ?_ ?_)
      | (with_reducible refine LeO.bind ?_ (fun _ => ?_))
      | exact ih0 _ _ _
      | exact LeO.none _
      | refine LeO.ite ?_ ?_
      | refine LeO.bind ?_ (fun _ => ?_)
set_option maxHeartbeats 8000000 in
set_option maxRecDepth 100000 in
theorem sequentref01_Of.calls (k : Nat) (P0_ : Nat → Prop) (A0 : Option Addr) (c0 : Nat) (l0 : List (S59)) (a1 : ByteArray) (r1 : Bool) (r2 : ByteArray) (r3 : List (S25)) (r4 : Bool) (w : World) (hs0 : Kd.V k59 59 w w.heap.size (fun k_ => P0_ k_) (.slice A0 l0.length c0) l0) (h : sequentref01_Of.f k l0 a1 = some (r1, r2, r3, r4)) :
    Calls Try.prog 104 #[.slice A0 l0.length c0, .string a1] w fun e w' => ∃ v2_ : Value, e = .returned (.tuple #[.agg #[.bool r1, .string r2, v2_], .bool r4]) ∧ Kd.V k25 25 w' w.heap.size (fun k_ => (P0_ k_ ∨ w.heap.size ≤ k_)) v2_ r3 ∧ Below w.heap.size w w' := by
  have hu25 := Try.underlying25
  have HO0 := Aside0.mk (show Kd.V k59 59 w w.heap.size (fun k_ => (P0_ k_ ∨ w.heap.size ≤ k_)) (.slice A0 l0.length c0) l0 from Kd.V_mono hs0 (fun k_ hk => .inl hk))
  have HB := Aside0.mk (Below.refl w.heap.size w)
  have H : (sequentref01_Of.l0 k l0 a1 0) = some (r1, r2, r3, r4) := h
  clear h
  have H' := Aside0.mk H
  clear H
  go_enter Try.func104, Try.ntmps104
  go_wp2_with (first | ((with_reducible refine gate_dst (N := 4) rfl ?_); refine box_event ?hg (N := 4) ?hd (cs := #[.bool false, .string (⟨#[]⟩ : ByteArray), .slice none 0 0]) (t := 25) ?hr ?_; (case hd => rfl); (case hg => rfl); (case hr => first | (go_simp; done) | (go_simp; rfl)); intro gb328 hg w3 hbox hb; have n0_ := Aside0.mk (Kd.V_below (Kd.V_elderB (by (with_reducible repeat (first | apply Kd.V_alloc | apply Kd.V_drewN | apply Kd.V_drew)); exact HO0.out) gb328 (Nat.le_of_eq hg.symm)) hb); have n1_ := Aside0.mk (below_step bel_ hb); have n2_ := Aside0.mk (hbox); have n3_ := Aside0.mk ((by rw [hg]; exact (below_size bel_) : w.heap.size ≤ gb328)); have n4_ := Aside0.mk ((by rw [hg]; exact (below_size bel_) : w.heap.size ≤ gb328)); clear HO0; clear HB; have HO0 := n0_; have HB := n1_; have BK328 := n2_; have GW328 := n3_; have GE328 := n4_; clear n0_ n1_ n2_ n3_ n4_; clear hb hbox hg))
  go_loopg [6] k (fun kq v6 w' => ∃ (x6_1 : Int) (x329000_1 : Bool) (x329001_1 : ByteArray), v6 = .int .i64 x6_1 ∧ Aside0 (sequentref01_Of.l0 kq l0 a1 x6_1 = some (r1, r2, r3, r4)) ∧ Aside0 (kq ≤ k) ∧ Aside0 (Kd.V k59 59 w' w.heap.size (fun k_ => (P0_ k_ ∨ w.heap.size ≤ k_) ∧ k_ ≠ gb328) (.slice A0 l0.length c0) l0) ∧ Aside0 (w'.heap[gb328]? = some (.cells #[.bool x329000_1, .string x329001_1, (.slice none 0 0)] 25 (0, 0))) ∧ Aside0 (Below w.heap.size w w'))
  case atStart => exact ⟨(0), (false), ((⟨#[]⟩ : ByteArray)), (by first | rfl | (simp; done) | (simp [*]; done)), H', ⟨Nat.le_refl _⟩, ⟨by (with_reducible repeat (first | apply Kd.V_alloc | apply Kd.V_drewN | apply Kd.V_drew)); exact HO0.out⟩, ⟨by (with_reducible repeat (first | refine blk_drewN ?_ _ | refine blk_drew ?_ | refine blk_alloc ?_ _)); exact BK328.out⟩, ⟨bel_⟩⟩
  case round =>
    clear H'
    try clear c1
    try clear p2
    obtain ⟨x6_1, x329000_1, x329001_1, rfl, HA, HK1, HO_0, BK328, HB⟩ := hrel
    cases gk with
    | zero => exact absurd HA.out (by simp [sequentref01_Of.l0])
    | succ k1 =>
      have H := HA.out
      clear HA
      simp only [sequentref01_Of.l0] at H
      by_cases c4 : x6_1 < (l0.length : Int)
      · rw [if_pos c4] at H
        have c4b0 : decide (x6_1 < (l0.length : Int)) = true := decide_eq_true c4
        clear c4
        by_cases c5 : 0 ≤ x6_1
        · rw [if_pos c5] at H
          have c5b0 : decide (0 ≤ x6_1) = true := decide_eq_true c5
          clear c5
          by_cases c6 : ((rd_T59 l0 x6_1).f0).toList = a1.toList
          · rw [if_pos c6] at H
            have c6b0 : (((rd_T59 l0 x6_1).f0).toList == a1.toList) = true := beq_iff_eq.mpr c6
            have c6b1 : (((rd_T59 l0 x6_1).f0).toList != a1.toList) = false := bne_eq_false_iff_eq.mpr c6
            clear c6
            simp only [Option.some.injEq, Prod.mk.injEq] at H
            obtain ⟨rfl, rfl, rfl, rfl⟩ := H
            have p329 : 0 ≤ (x6_1 : Int) := of_decide_eq_true (by first | (with_reducible assumption) | assumption)
            have q329 : x6_1 < (l0.length : Int) := of_decide_eq_true (by first | (with_reducible assumption) | assumption)
            obtain ⟨ad329, A329_3, c329_3, e329, hx329_0, hx329_1, hx329_2, hx329_3, hl329_3, hi329_3⟩ := at_T59 (Kd.V_reads' HO_0.out).2.2 x6_1 p329 q329
            cases e329
            obtain ⟨ce329, hce329, hMe329, hcc329⟩ := Kd.V_get HO_0.out z59 x6_1 p329 (by first | exact q329 | exact of_decide_eq_true (by first | (with_reducible assumption) | assumption) | (have e_ := (Kd.V_reads' HO_0.out).1; omega))
            obtain ⟨ua329_3, uc329_3, rfl, ul329_3, ge329_3⟩ := k59_openF hMe329
            have hv329_3 := hcc329 3 _ rfl
            rw [add_field _ _ 3 (by omega)] at hv329_3
            replace hv329_3 := Option.some.inj (hv329_3.symm.trans hx329_3)
            injection hv329_3 with hva_ hvn_ hvc_
            rw [hva_] at ge329_3
            rw [hvc_] at ul329_3
            have HL329_3 := Aside0.mk (show Kd.V k25 25 _ w.heap.size _ _ ((rd_T59 l0 x6_1).f1.f2) from Kd.V_mk ul329_3 ge329_3)
            clear hva_ hvn_ hvc_ ge329_3 ul329_3
            clear hcc329 hce329
            have HR329_3 := Aside0.mk hi329_3
            have HC329_3 := Aside0.mk hl329_3
            clear hi329_3 hl329_3
            replace p329 := eq_true p329
            replace q329 := eq_true q329
            have p330 : 0 ≤ (x6_1 : Int) := of_decide_eq_true (by first | (with_reducible assumption) | assumption)
            have q330 : x6_1 < (l0.length : Int) := of_decide_eq_true (by first | (with_reducible assumption) | assumption)
            obtain ⟨ad330, A330_3, c330_3, e330, hx330_0, hx330_1, hx330_2, hx330_3, hl330_3, hi330_3⟩ := at_T59 (Kd.V_reads' HO_0.out).2.2 x6_1 p330 q330
            obtain rfl : ad329 = ad330 := (by injection e330)
            obtain ⟨ce330, hce330, hMe330, hcc330⟩ := Kd.V_get HO_0.out z59 x6_1 p330 (by first | exact q330 | exact of_decide_eq_true (by first | (with_reducible assumption) | assumption) | (have e_ := (Kd.V_reads' HO_0.out).1; omega))
            obtain ⟨ua330_3, uc330_3, rfl, ul330_3, ge330_3⟩ := k59_openF hMe330
            have hv330_3 := hcc330 3 _ rfl
            rw [add_field _ _ 3 (by omega)] at hv330_3
            replace hv330_3 := Option.some.inj (hv330_3.symm.trans hx330_3)
            injection hv330_3 with hva_ hvn_ hvc_
            rw [hva_] at ge330_3
            rw [hvc_] at ul330_3
            have HL330_3 := Aside0.mk (show Kd.V k25 25 _ w.heap.size _ _ ((rd_T59 l0 x6_1).f1.f2) from Kd.V_mk ul330_3 ge330_3)
            clear hva_ hvn_ hvc_ ge330_3 ul330_3
            clear hcc330 hce330
            have HR330_3 := Aside0.mk hi330_3
            have HC330_3 := Aside0.mk hl330_3
            clear hi330_3 hl330_3
            replace p330 := eq_true p330
            replace q330 := eq_true q330
            have ea_ := Option.some.inj (hx329_3.symm.trans hx330_3)
            injection ea_ with ea_ en_ ec_
            subst ea_
            subst ec_
            clear en_
            have hcz7_0 : wr.cell? ⟨gb328, 0, none⟩ = some (.bool x329000_1) := (blk_cell BK328.out 0).trans rfl
            have hcz7_1 : wr.cell? ⟨gb328, 1, none⟩ = some (.string x329001_1) := (blk_cell BK328.out 1).trans rfl
            have hcz7_2 : wr.cell? ⟨gb328, 2, none⟩ = some (.slice none 0 0) := (blk_cell BK328.out 2).trans rfl
            have hfz7_0 := blk_frozen BK328.out 0
            have hfz7_1 := blk_frozen BK328.out 1
            have hfz7_2 := blk_frozen BK328.out 2
            go_wp2
            refine bodyPost_ret (results_ct rfl _ _ gb328 25 #[.bool ((rd_T59 l0 x6_1).f1.f0), .string ((rd_T59 l0 x6_1).f1.f1), .slice A329_3 ((rd_T59 l0 x6_1).f1.f2).length c329_3] (0, 0) _ rfl (by (with_reducible repeat (first | refine blk_drewN ?_ _ | refine blk_drew ?_ | refine blk_alloc ?_ _)); refine blk_put (cs := #[.bool ((rd_T59 l0 x6_1).f1.f0), .string ((rd_T59 l0 x6_1).f1.f1), .slice none 0 0]) ?_ 2 _ rfl; (with_reducible repeat (first | refine blk_drewN ?_ _ | refine blk_drew ?_ | refine blk_alloc ?_ _)); refine blk_put (cs := #[.bool ((rd_T59 l0 x6_1).f1.f0), .string x329001_1, .slice none 0 0]) ?_ 1 _ rfl; (with_reducible repeat (first | refine blk_drewN ?_ _ | refine blk_drew ?_ | refine blk_alloc ?_ _)); refine blk_put (cs := #[.bool x329000_1, .string x329001_1, .slice none 0 0]) ?_ 0 _ rfl; (with_reducible repeat (first | refine blk_drewN ?_ _ | refine blk_drew ?_ | refine blk_alloc ?_ _)); exact BK328.out) Try.underlying25 rfl (by kernel_rfl)) rfl ?_
            exact ⟨_, by first | rfl | (simp [errW_none, errW_some] <;> rfl) | (simp [*, errW_none, errW_some] <;> rfl), by (with_reducible repeat (first | apply Kd.V_alloc | apply Kd.V_drewN | apply Kd.V_drew)); exact Kd.V_mono (Kd.V_far (p := ⟨gb328, 2, none⟩) (Kd.V_far (p := ⟨gb328, 1, none⟩) (Kd.V_far (p := ⟨gb328, 0, none⟩) (Kd.V_mono HL330_3.out (fun k_ hk => (⟨hk, hk.2⟩ : _ ∧ k_ ≠ gb328))) (fun _ hk => hk.2) (.bool ((rd_T59 l0 x6_1).f1.f0))) (fun _ hk => hk.2) (.string ((rd_T59 l0 x6_1).f1.f1))) (fun _ hk => hk.2) (.slice A329_3 ((rd_T59 l0 x6_1).f1.f2).length c329_3)) (fun _ hk => hk.1.1), bel_⟩
          · rw [if_neg c6] at H
            have c6b0 : (((rd_T59 l0 x6_1).f0).toList == a1.toList) = false := beq_eq_false_iff_ne.mpr c6
            have c6b1 : (((rd_T59 l0 x6_1).f0).toList != a1.toList) = true := bne_iff_ne.mpr c6
            have H' := Aside0.mk H
            clear H
            have p329 : 0 ≤ (x6_1 : Int) := of_decide_eq_true (by first | (with_reducible assumption) | assumption)
            have q329 : x6_1 < (l0.length : Int) := of_decide_eq_true (by first | (with_reducible assumption) | assumption)
            obtain ⟨ad329, A329_3, c329_3, e329, hx329_0, hx329_1, hx329_2, hx329_3, hl329_3, hi329_3⟩ := at_T59 (Kd.V_reads' HO_0.out).2.2 x6_1 p329 q329
            cases e329
            obtain ⟨ce329, hce329, hMe329, hcc329⟩ := Kd.V_get HO_0.out z59 x6_1 p329 (by first | exact q329 | exact of_decide_eq_true (by first | (with_reducible assumption) | assumption) | (have e_ := (Kd.V_reads' HO_0.out).1; omega))
            obtain ⟨ua329_3, uc329_3, rfl, ul329_3, ge329_3⟩ := k59_openF hMe329
            have hv329_3 := hcc329 3 _ rfl
            rw [add_field _ _ 3 (by omega)] at hv329_3
            replace hv329_3 := Option.some.inj (hv329_3.symm.trans hx329_3)
            injection hv329_3 with hva_ hvn_ hvc_
            rw [hva_] at ge329_3
            rw [hvc_] at ul329_3
            have HL329_3 := Aside0.mk (show Kd.V k25 25 _ w.heap.size _ _ ((rd_T59 l0 x6_1).f1.f2) from Kd.V_mk ul329_3 ge329_3)
            clear hva_ hvn_ hvc_ ge329_3 ul329_3
            clear hcc329 hce329
            have HR329_3 := Aside0.mk hi329_3
            have HC329_3 := Aside0.mk hl329_3
            clear hi329_3 hl329_3
            replace p329 := eq_true p329
            replace q329 := eq_true q329
            go_wp2
            go_roundg k1
            case measure => have := HK1.out; omega
            case rel => exact ⟨(wrap64 (x6_1 + 1)), (x329000_1), (x329001_1), (by first | rfl | (simp; done) | (simp [*]; done)), H', ⟨by have := HK1.out; omega⟩, ⟨by (with_reducible repeat (first | apply Kd.V_alloc | apply Kd.V_drewN | apply Kd.V_drew)); exact HO_0.out⟩, ⟨by (with_reducible repeat (first | refine blk_drewN ?_ _ | refine blk_drew ?_ | refine blk_alloc ?_ _)); exact BK328.out⟩, ⟨bel_⟩⟩
        · rw [if_neg c5] at H
          exact absurd H (by simp)
      · rw [if_neg c4] at H
        have c4b0 : decide (x6_1 < (l0.length : Int)) = false := decide_eq_false c4
        clear c4
        simp only [Option.some.injEq, Prod.mk.injEq] at H
        obtain ⟨rfl, rfl, rfl, rfl⟩ := H
        have hcz8_0 : wr.cell? ⟨gb328, 0, none⟩ = some (.bool x329000_1) := (blk_cell BK328.out 0).trans rfl
        have hcz8_1 : wr.cell? ⟨gb328, 1, none⟩ = some (.string x329001_1) := (blk_cell BK328.out 1).trans rfl
        have hcz8_2 : wr.cell? ⟨gb328, 2, none⟩ = some (.slice none 0 0) := (blk_cell BK328.out 2).trans rfl
        have hfz8_0 := blk_frozen BK328.out 0
        have hfz8_1 := blk_frozen BK328.out 1
        have hfz8_2 := blk_frozen BK328.out 2
        go_wp2
        refine bodyPost_ret (results_ct rfl _ _ gb328 25 #[.bool true, .string a1, .slice none 0 0] (0, 0) _ rfl (by (with_reducible repeat (first | refine blk_drewN ?_ _ | refine blk_drew ?_ | refine blk_alloc ?_ _)); refine blk_put (cs := #[.bool true, .string a1, .slice none 0 0]) ?_ 2 _ rfl; (with_reducible repeat (first | refine blk_drewN ?_ _ | refine blk_drew ?_ | refine blk_alloc ?_ _)); refine blk_put (cs := #[.bool true, .string x329001_1, .slice none 0 0]) ?_ 1 _ rfl; (with_reducible repeat (first | refine blk_drewN ?_ _ | refine blk_drew ?_ | refine blk_alloc ?_ _)); refine blk_put (cs := #[.bool x329000_1, .string x329001_1, .slice none 0 0]) ?_ 0 _ rfl; (with_reducible repeat (first | refine blk_drewN ?_ _ | refine blk_drew ?_ | refine blk_alloc ?_ _)); exact BK328.out) Try.underlying25 rfl (by kernel_rfl)) rfl ?_
        exact ⟨_, by first | rfl | (simp [errW_none, errW_some] <;> rfl) | (simp [*, errW_none, errW_some] <;> rfl), Kd.V_nil _ _ _ _ _, bel_⟩

end Go.Proofs.Ytgnklkmifcmlhaa.Q
