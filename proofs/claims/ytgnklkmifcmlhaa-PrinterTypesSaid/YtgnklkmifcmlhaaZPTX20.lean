/- Proved here: parts of the proof of a given statement (HRowPrinterTypes): contracts of the functions that it reaches, what they answer, and in the last text the statement itself. Conditions: those that each theorem names. -/
import Derived.Test.YtgnklkmifcmlhaaZPTX13
import Derived.Test.YtgnklkmifcmlhaaZPTX10
import Derived.Test.YtgnklkmifcmlhaaZPTX15
import Derived.Test.YtgnklkmifcmlhaaZPTX18
import Derived.Test.YtgnklkmifcmlhaaZPTX6
import Derived.Test.YtgnklkmifcmlhaaZPTX7
import Derived.Test.YtgnklkmifcmlhaaZPTX19
/- Proved here: the walk of the law PrinterTypes. Conditions: those that each theorem names. -/
namespace Go.Proofs.Ytgnklkmifcmlhaa.Q
open Go.RowKit Go.Shelf Go.Proofs.YtgnklkmifcmlhaaW.PrintWords Go.Proofs.YtgnklkmifcmlhaaW.PrintMore
set_option linter.unusedVariables false
set_option linter.unusedSimpArgs false
attribute [local go_sem] Oper.semAt_some

mutual
theorem nm30_sh : ∀ t : S25, shB t = true → allT (fun x => x.f1.size ≤ 30) t
  | ⟨v, n, l⟩, h => by
    rw [shB_eq] at h
    simp only [Bool.and_eq_true, headB, nameB, decide_eq_true_eq] at h
    exact ⟨h.1.1.1.2, nm30L_sh l h.2⟩
theorem nm30L_sh : ∀ l : List S25, shBL l = true → allL (fun x => x.f1.size ≤ 30) l
  | [], _ => trivial
  | a :: l, h => by
    simp only [shBL, Bool.and_eq_true] at h
    exact ⟨nm30_sh a h.1, nm30L_sh l h.2⟩
end
def tyS (t : S25) : ByteArray := if chkB t = true then txT t else ⟨#[]⟩
def tyE (t : S25) : Int := if chkB t = true then 0 else 10
theorem chk_parts {t : S25} (h : chkB t = true) : szT t ≤ 500 ∧ nm30 t := by
  simp only [chkB, Bool.and_eq_true, decide_eq_true_eq] at h
  exact ⟨h.1.2, nm30_sh t h.1.1⟩
theorem ptype_calls (t : S25) (A : Option Addr) (c : Nat) (w : World) (hf : fit t) (hA : k25.C w A t.f2.length t.f2) (hc : t.f2.length ≤ c) :
    Calls Try.prog 45 #[.agg #[.bool t.f0, .string t.f1, .slice A t.f2.length c]] w fun e w' => e = .returned (.tuple #[.string (tyS t), .int .i64 (tyE t)]) ∧ Below w.heap.size w w' := by
  obtain ⟨k, hk⟩ := (check_ev t hf).at
  have hb0 := below_one (w := w) (.cells #[.bool t.f0, .string t.f1, .slice A t.f2.length c] 25)
  have h28 := fun W (hw : Below w.heap.size w W) => types_Check.calls k t.f0 t.f1 A c t.f2 _ W (Kd.C_below hA hw) hc hk
  obtain ⟨x0, x1, x2, x3, x4, x5, x6⟩ := box3s (blk_new w (.cells #[.bool t.f0, .string t.f1, .slice A t.f2.length c] 25))
  have BX := blk_new w (.cells #[.bool t.f0, .string t.f1, .slice A t.f2.length c] 25)
  unfold tyS tyE
  cases hq : chkB t with
  | true =>
    obtain ⟨hz, hn⟩ := chk_parts hq
    have htx := fun W (hw : Below w.heap.size w W) => text_calls (szT t) t A c W (Nat.le_refl _) (by omega) hn (Kd.C_below hA hw) hc
    rw [hq] at h28
    simp only [if_true] at h28 ⊢
    clear hk hf hA hn hz hq
    go_enter Try.func45, Try.ntmps45
    go_wp2_with (first
      | (go_at_call 79; (with_reducible refine (htx _ (below_step hb0 hc1)).mono ?_); rintro e W2 ⟨rfl, hc2⟩)
      | (go_at_call 28; (with_reducible refine (h28 _ hb0).mono ?_); rintro e W1 ⟨rfl, hc1⟩; obtain ⟨y0, y1, y2, y3, y4, y5, y6⟩ := box3s (blk_below BX hc1)))
    go_ret2
    exact ⟨rfl, below_step (below_step hb0 hc1) hc2⟩
  | false =>
    rw [hq] at h28
    simp only [Bool.false_eq_true, if_false] at h28 ⊢
    clear hk hf hA hq
    go_enter Try.func45, Try.ntmps45
    go_wp2_with (go_at_call 28; (with_reducible refine (h28 _ hb0).mono ?_); rintro e W1 ⟨rfl, hc1⟩; obtain ⟨y0, y1, y2, y3, y4, y5, y6⟩ := box3s (blk_below BX hc1))
    go_ret2
    exact ⟨rfl, below_step hb0 hc1⟩
theorem rtype_calls (t : S25) (A : Option Addr) (c : Nat) (w : World) (hf : fit t) (hA : k25.C w A t.f2.length t.f2) (hc : t.f2.length ≤ c) :
    Calls Try.prog 46 #[.agg #[.bool t.f0, .string t.f1, .slice A t.f2.length c]] w fun e w' => e = .returned (.tuple #[.string (tyS t), .int .i64 (tyE t)]) ∧ Below w.heap.size w w' := by
  obtain ⟨k, hk⟩ := (valid_ev t hf).at
  have hb0 := below_one (w := w) (.cells #[.bool t.f0, .string t.f1, .slice A t.f2.length c] 25)
  have h28 := fun W (hw : Below w.heap.size w W) => sequentref01_Valid.calls k t.f0 t.f1 A c t.f2 _ W (Kd.C_below hA hw) hc hk
  obtain ⟨x0, x1, x2, x3, x4, x5, x6⟩ := box3s (blk_new w (.cells #[.bool t.f0, .string t.f1, .slice A t.f2.length c] 25))
  have BX := blk_new w (.cells #[.bool t.f0, .string t.f1, .slice A t.f2.length c] 25)
  unfold tyS tyE
  cases hq : chkB t with
  | true =>
    obtain ⟨hz, hn⟩ := chk_parts hq
    have htx := fun W (hw : Below w.heap.size w W) => reftext_calls (szT t) t A c W (Nat.le_refl _) (by omega) hn (Kd.C_below hA hw) hc
    rw [hq] at h28
    simp only [if_true] at h28 ⊢
    clear hk hf hA hn hz hq
    go_enter Try.func46, Try.ntmps46
    go_wp2_with (first
      | (go_at_call 80; (with_reducible refine (htx _ (below_step hb0 hc1)).mono ?_); rintro e W2 ⟨rfl, hc2⟩)
      | (go_at_call 62; (with_reducible refine (h28 _ hb0).mono ?_); rintro e W1 ⟨rfl, hc1⟩; obtain ⟨y0, y1, y2, y3, y4, y5, y6⟩ := box3s (blk_below BX hc1)))
    go_ret2
    exact ⟨rfl, below_step (below_step hb0 hc1) hc2⟩
  | false =>
    rw [hq] at h28
    simp only [Bool.false_eq_true, if_false] at h28 ⊢
    clear hk hf hA hq
    go_enter Try.func46, Try.ntmps46
    go_wp2_with (go_at_call 62; (with_reducible refine (h28 _ hb0).mono ?_); rintro e W1 ⟨rfl, hc1⟩; obtain ⟨y0, y1, y2, y3, y4, y5, y6⟩ := box3s (blk_below BX hc1))
    go_ret2
    exact ⟨rfl, below_step hb0 hc1⟩

abbrev PrS (w : World) (t : S25) (A : Option Addr) (c : Nat) (v0 v1 v2 v3 : Value) (W : World) : Prop :=
  W.cell? ⟨w.heap.size, 0, none⟩ = some (.bool t.f0) ∧ W.cell? ⟨w.heap.size, 1, none⟩ = some (.string t.f1) ∧ W.cell? ⟨w.heap.size, 2, none⟩ = some (.slice A t.f2.length c) ∧
    W.cell? ⟨w.heap.size + 1, 0, none⟩ = some v0 ∧ W.cell? ⟨w.heap.size + 1, 1, none⟩ = some v1 ∧ W.cell? ⟨w.heap.size + 1, 2, none⟩ = some v2 ∧ W.cell? ⟨w.heap.size + 1, 3, none⟩ = some v3 ∧ Below w.heap.size w W
theorem PrS.step {w : World} {t : S25} {A : Option Addr} {c : Nat} {v0 v1 v2 v3 : Value} {W W' : World} (h : PrS w t A c v0 v1 v2 v3 W) (hb : Below W.heap.size W W') : PrS w t A c v0 v1 v2 v3 W' := by
  obtain ⟨h0, h1, h2, h3, h4, h5, h6, h7⟩ := h
  exact ⟨pw_cell_below hb h0, pw_cell_below hb h1, pw_cell_below hb h2, pw_cell_below hb h3, pw_cell_below hb h4, pw_cell_below hb h5, pw_cell_below hb h6, below_step h7 hb⟩
theorem PrS.below {w : World} {t : S25} {A : Option Addr} {c : Nat} {v0 v1 v2 v3 : Value} {W : World} (h : PrS w t A c v0 v1 v2 v3 W) : Below w.heap.size w W := h.2.2.2.2.2.2.2
set_option maxHeartbeats 4000000 in
set_option maxRecDepth 100000 in
theorem law_print (t : S25) (A : Option Addr) (c : Nat) (l0 : List S119) (A0 : Option Addr) (c0 : Nat) (l1 : List S122) (A1 : Option Addr) (c1 : Nat) (l2 : List ByteArray) (A2 : Option Addr) (c2 : Nat) (l3 : List S111) (A3 : Option Addr) (c3 : Nat) (w : World)
    (hA : k25.C w A t.f2.length t.f2) (hc : t.f2.length ≤ c) (hwt : wd t)
    (hr0 : Kd.C k119 w A0 l0.length l0) (hc0 : l0.length ≤ c0) (hr1 : Kd.C k122 w A1 l1.length l1) (hc1 : l1.length ≤ c1) (hr2 : Kd.C Kd.string w A2 l2.length l2) (hc2 : l2.length ≤ c2) (hr3 : Kd.C k111 w A3 l3.length l3) (hc3 : l3.length ≤ c3)
    (z0 : l0.length ≤ 1152921504606846976) (z1 : l1.length ≤ 1152921504606846976) (z2 : l2.length ≤ 1152921504606846976) (z3 : l3.length ≤ 1152921504606846976)
    (h0 : ∀ a, a ∈ l0 → okS a.f0) (h1 : ∀ a, a ∈ l1 → okS a.f0) (h2 : ∀ a, a ∈ l2 → okS a) (h3 : ∀ a, a ∈ l3 → okS a.f0 ∧ a.f1.length ≤ 4611686018427387904 ∧ ∀ x, x ∈ a.f1 → okS x) :
    Calls Try.prog 11 #[.agg #[.bool t.f0, .string t.f1, .slice A t.f2.length c], .agg #[.slice A0 l0.length c0, .slice A1 l1.length c1, .slice A2 l2.length c2, .slice A3 l3.length c3]] w fun e w' => e = .returned (.bool true) ∧ Below w.heap.size w w' := by
  obtain ⟨kg, hkg⟩ := (great_ev t hwt).at
  obtain ⟨ks, hks⟩ := (gs_ev l0 l1 l2 l3 z0 z1 z2 z3).at
  have hgt := fun W (hw : PrS w t A c (.slice A0 l0.length c0) (.slice A1 l1.length c1) (.slice A2 l2.length c2) (.slice A3 l3.length c3) W) => (sequentref01_Great.calls kg t.f0 t.f1 A c t.f2 _ W (Kd.C_below hA hw.below) hc hkg).mono (fun _ _ h => And.intro h.1 (hw.step h.2))
  have hgs := fun W (hw : PrS w t A c (.slice A0 l0.length c0) (.slice A1 l1.length c1) (.slice A2 l2.length c2) (.slice A3 l3.length c3) W) => (sequentref14_GreatSyntax.calls ks A0 c0 l0 A1 c1 l1 A2 c2 l2 A3 c3 l3 _ W (Kd.C_below hr0 hw.below) hc0 (Kd.C_below hr1 hw.below) hc1 (Kd.C_below hr2 hw.below) hc2 (Kd.C_below hr3 hw.below) hc3 hks).mono (fun _ _ h => And.intro h.1 (hw.step h.2))
  have hS0 : PrS w t A c (.slice A0 l0.length c0) (.slice A1 l1.length c1) (.slice A2 l2.length c2) (.slice A3 l3.length c3) ((w.alloc (.cells #[.bool t.f0, .string t.f1, .slice A t.f2.length c] 25)).alloc (.cells #[.slice A0 l0.length c0, .slice A1 l1.length c1, .slice A2 l2.length c2, .slice A3 l3.length c3] 69)) := by
    obtain ⟨y0, y1, y2, _, _, _, _⟩ := box3s (two_new w (.cells #[.bool t.f0, .string t.f1, .slice A t.f2.length c] 25) (.cells #[.slice A0 l0.length c0, .slice A1 l1.length c1, .slice A2 l2.length c2, .slice A3 l3.length c3] 69)).2.1
    have hx := box4c (two_new w (.cells #[.bool t.f0, .string t.f1, .slice A t.f2.length c] 25) (.cells #[.slice A0 l0.length c0, .slice A1 l1.length c1, .slice A2 l2.length c2, .slice A3 l3.length c3] 69)).2.2
    exact ⟨y0, y1, y2, hx.1, hx.2.1, hx.2.2.1, hx.2.2.2, (two_new w (.cells #[.bool t.f0, .string t.f1, .slice A t.f2.length c] 25) (.cells #[.slice A0 l0.length c0, .slice A1 l1.length c1, .slice A2 l2.length c2, .slice A3 l3.length c3] 69)).1⟩
  have hS1 := hS0
  obtain ⟨x0, x1, x2, x3, x4, x5, x6, x7⟩ := hS1
  clear hkg hks
  cases hgT : greatB t with
  | true =>
    rw [hgT] at hgt
    clear hgs hr0 hr1 hr2 hr3 h0 h1 h2 h3 hA hwt
    go_enter Try.func11, Try.ntmps11
    go_wp2_with (go_at_call 14; (with_reducible refine (hgt _ hS0).mono ?_); rintro e W1 ⟨rfl, hN⟩)
    go_ret
    exact ⟨rfl, hN.below⟩
  | false =>
  rw [hgT] at hgt
  cases hgX : gsB l0 l1 l2 l3 with
  | true =>
    rw [hgX] at hgs
    clear hr0 hr1 hr2 hr3 h0 h1 h2 h3 hA hwt
    go_enter Try.func11, Try.ntmps11
    go_wp2_with (first
      | (go_at_call 44; (with_reducible refine (hgs _ hN).mono ?_); rintro e W2 ⟨rfl, hN2⟩)
      | (go_at_call 14; (with_reducible refine (hgt _ hS0).mono ?_); rintro e W1 ⟨rfl, hN⟩; obtain ⟨x0, x1, x2, x3, x4, x5, x6, x7⟩ := id hN))
    go_ret
    exact ⟨rfl, hN2.below⟩
  | false =>
  rw [hgX] at hgs
  have hsum : l0.length + l1.length + l2.length + l3.length ≤ 300 := by
    unfold gsB at hgX
    simp only [Bool.or_eq_false_iff, decide_eq_false_iff_not] at hgX
    omega
  have hf : fit t := ⟨by have := greatB_sz hgT; omega, allT_imp (fun x h => h.1) t hwt⟩
  obtain ⟨kc, hkc⟩ := (ck_ev l0 l1 l2 l3 h0 h1 h2 (fun a ha => ⟨(h3 a ha).1, (h3 a ha).2.2⟩)).at
  obtain ⟨kr, hkr⟩ := (refcs_ev l0 l1 l2 l3 hsum h0 h1 h2 h3).at
  generalize (if (64 < l0.length ∨ 64 < l1.length ∨ 64 < l2.length ∨ 64 < l3.length) then 8 else if synB l0 l1 l2 l3 = true then 0 else 8 : Int) = cs at hkc hkr
  have hp := fun W (hw : PrS w t A c (.slice A0 l0.length c0) (.slice A1 l1.length c1) (.slice A2 l2.length c2) (.slice A3 l3.length c3) W) => (ptype_calls t A c W hf (Kd.C_below hA hw.below) hc).mono (fun _ _ h => And.intro h.1 (hw.step h.2))
  have hq := fun W (hw : PrS w t A c (.slice A0 l0.length c0) (.slice A1 l1.length c1) (.slice A2 l2.length c2) (.slice A3 l3.length c3) W) => (rtype_calls t A c W hf (Kd.C_below hA hw.below) hc).mono (fun _ _ h => And.intro h.1 (hw.step h.2))
  have hcs := fun W (hw : PrS w t A c (.slice A0 l0.length c0) (.slice A1 l1.length c1) (.slice A2 l2.length c2) (.slice A3 l3.length c3) W) => (syn_calls kc A0 c0 l0 A1 c1 l1 A2 c2 l2 A3 c3 l3 cs W (Kd.C_below hr0 hw.below) (Kd.C_below hr1 hw.below) (Kd.C_below hr2 hw.below) (Kd.C_below hr3 hw.below) hkc).mono (fun _ _ h => And.intro h.1 (hw.step h.2))
  have hrs := fun W (hw : PrS w t A c (.slice A0 l0.length c0) (.slice A1 l1.length c1) (.slice A2 l2.length c2) (.slice A3 l3.length c3) W) => (sequentref14_CheckSyntax.calls kr A0 c0 l0 A1 c1 l1 A2 c2 l2 A3 c3 l3 cs W (Kd.C_below hr0 hw.below) hc0 (Kd.C_below hr1 hw.below) hc1 (Kd.C_below hr2 hw.below) hc2 (Kd.C_below hr3 hw.below) hc3 hkr).mono (fun _ _ h => And.intro h.1 (hw.step h.2))
  clear hr0 hr1 hr2 hr3 h0 h1 h2 h3 hA hwt hkc hkr hf hsum hgT hgX
  generalize tyS t = rs at *
  generalize tyE t = re at *
  go_enter Try.func11, Try.ntmps11
  go_upto_region 5 with (first
    | (go_at_call 46; (with_reducible refine (hq _ hN).mono ?_); rintro e W4 ⟨rfl, hN⟩; obtain ⟨x0, x1, x2, x3, x4, x5, x6, x7⟩ := id hN)
    | (go_at_call 45; (with_reducible refine (hp _ hN).mono ?_); rintro e W3 ⟨rfl, hN⟩; obtain ⟨x0, x1, x2, x3, x4, x5, x6, x7⟩ := id hN)
    | (go_at_call 44; (with_reducible refine (hgs _ hN).mono ?_); rintro e W2 ⟨rfl, hN⟩; obtain ⟨x0, x1, x2, x3, x4, x5, x6, x7⟩ := id hN)
    | (go_at_call 14; (with_reducible refine (hgt _ hS0).mono ?_); rintro e W1 ⟨rfl, hN⟩; obtain ⟨x0, x1, x2, x3, x4, x5, x6, x7⟩ := id hN))
  have hNd := hN.step (below_drew1 (Below.refl _ _))
  go_region_held3 (fun W => PrS w t A c (.slice A0 l0.length c0) (.slice A1 l1.length c1) (.slice A2 l2.length c2) (.slice A3 l3.length c3) W)
    (first | (with_reducible exact hNd) | (with_reducible assumption))
    (first
      | (go_at_call 47; (with_reducible refine (hcs _ (by with_reducible assumption)).mono ?_); rintro e W5 ⟨rfl, hN⟩)
      | (go_at_call 48; (with_reducible refine (hrs _ (by with_reducible assumption)).mono ?_); rintro e W5 ⟨rfl, hN⟩))
  have hNN := hN
  go_wp2
  go_ret
  exact ⟨by first | rfl | (simp; done), hNN.below⟩
end Go.Proofs.Ytgnklkmifcmlhaa.Q
