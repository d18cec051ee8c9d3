/- Proved here: the walk of the law TypesOrder. Conditions: those that each theorem names. -/
import Derived.Test.YtgnklkmifcmlhaaHAlive
import Derived.Test.YtgnklkmifcmlhaaHOrder
import Derived.Test.YtgnklkmifcmlhaaHRefG
import Derived.Test.YtgnklkmifcmlhaaHOpen
namespace Go.Proofs.Ytgnklkmifcmlhaa.Q
open Go.RowKit Go.Shelf Go.Proofs.YtgnklkmifcmlhaaW.PrintWords Go.Proofs.YtgnklkmifcmlhaaW.PrintMore
set_option linter.unusedVariables false
set_option linter.unusedSimpArgs false
attribute [local go_sem] Oper.semAt_some

abbrev OrdS (w : World) (x y z : S25) (A : Option Addr) (c : Nat) (B : Option Addr) (d : Nat) (C : Option Addr) (f : Nat) (W : World) : Prop :=
  W.cell? ⟨w.heap.size, 0, none⟩ = some (.bool x.f0) ∧ W.cell? ⟨w.heap.size, 1, none⟩ = some (.string x.f1) ∧ W.cell? ⟨w.heap.size, 2, none⟩ = some (.slice A x.f2.length c) ∧
    W.cell? ⟨w.heap.size + 1, 0, none⟩ = some (.bool y.f0) ∧ W.cell? ⟨w.heap.size + 1, 1, none⟩ = some (.string y.f1) ∧ W.cell? ⟨w.heap.size + 1, 2, none⟩ = some (.slice B y.f2.length d) ∧
    W.cell? ⟨w.heap.size + 1 + 1, 0, none⟩ = some (.bool z.f0) ∧ W.cell? ⟨w.heap.size + 1 + 1, 1, none⟩ = some (.string z.f1) ∧ W.cell? ⟨w.heap.size + 1 + 1, 2, none⟩ = some (.slice C z.f2.length f) ∧ Below w.heap.size w W
theorem OrdS.step {w : World} {x y z : S25} {A : Option Addr} {c : Nat} {B : Option Addr} {d : Nat} {C : Option Addr} {f : Nat} {W W' : World} (h : OrdS w x y z A c B d C f W) (hb : Below W.heap.size W W') : OrdS w x y z A c B d C f W' := by
  obtain ⟨h0, h1, h2, h3, h4, h5, h6, h7, h8, h9⟩ := h
  exact ⟨pw_cell_below hb h0, pw_cell_below hb h1, pw_cell_below hb h2, pw_cell_below hb h3, pw_cell_below hb h4, pw_cell_below hb h5, pw_cell_below hb h6, pw_cell_below hb h7, pw_cell_below hb h8, below_step h9 hb⟩

set_option maxHeartbeats 4000000 in
set_option maxRecDepth 100000 in
theorem law_order (x : S25) (A : Option Addr) (c : Nat) (y : S25) (B : Option Addr) (d : Nat) (z : S25) (C : Option Addr) (f : Nat) (w : World)
    (hA : k25.C w A x.f2.length x.f2) (hc : x.f2.length ≤ c) (hwx : wd x) (hB : k25.C w B y.f2.length y.f2) (hd : y.f2.length ≤ d) (hwy : wd y) (hC : k25.C w C z.f2.length z.f2) (hf : z.f2.length ≤ f) (hwz : wd z) :
    Calls Try.prog 6 #[.agg #[.bool x.f0, .string x.f1, .slice A x.f2.length c], .agg #[.bool y.f0, .string y.f1, .slice B y.f2.length d], .agg #[.bool z.f0, .string z.f1, .slice C z.f2.length f]] w fun e w' => e = .returned (.bool true) ∧ Below w.heap.size w w' := by
  obtain ⟨k0, h0⟩ := (great_ev x hwx).at
  obtain ⟨k1, h1⟩ := (great_ev y hwy).at
  obtain ⟨k2, h2⟩ := (great_ev z hwz).at
  have hgx := fun W (hw : OrdS w x y z A c B d C f W) => (sequentref01_Great.calls k0 x.f0 x.f1 A c x.f2 _ W (Kd.C_below hA hw.2.2.2.2.2.2.2.2.2) hc h0).mono (fun _ _ h => And.intro h.1 (hw.step h.2))
  have hgy := fun W (hw : OrdS w x y z A c B d C f W) => (sequentref01_Great.calls k1 y.f0 y.f1 B d y.f2 _ W (Kd.C_below hB hw.2.2.2.2.2.2.2.2.2) hd h1).mono (fun _ _ h => And.intro h.1 (hw.step h.2))
  have hgz := fun W (hw : OrdS w x y z A c B d C f W) => (sequentref01_Great.calls k2 z.f0 z.f1 C f z.f2 _ W (Kd.C_below hC hw.2.2.2.2.2.2.2.2.2) hf h2).mono (fun _ _ h => And.intro h.1 (hw.step h.2))
  have hal := fun W (hw : OrdS w x y z A c B d C f W) => (alive_calls W).mono (fun _ _ h => And.intro h.1 (hw.step h.2))
  have hxy := fun W (hw : OrdS w x y z A c B d C f W) => (compare_ok _ x y (Nat.le_refl _) A c B d W (Kd.C_below hA hw.2.2.2.2.2.2.2.2.2) hc (Kd.C_below hB hw.2.2.2.2.2.2.2.2.2) hd).mono (fun _ _ h => And.intro h.1 (hw.step h.2))
  have hyz := fun W (hw : OrdS w x y z A c B d C f W) => (compare_ok _ y z (Nat.le_refl _) B d C f W (Kd.C_below hB hw.2.2.2.2.2.2.2.2.2) hd (Kd.C_below hC hw.2.2.2.2.2.2.2.2.2) hf).mono (fun _ _ h => And.intro h.1 (hw.step h.2))
  have hxz := fun W (hw : OrdS w x y z A c B d C f W) => (compare_ok _ x z (Nat.le_refl _) A c C f W (Kd.C_below hA hw.2.2.2.2.2.2.2.2.2) hc (Kd.C_below hC hw.2.2.2.2.2.2.2.2.2) hf).mono (fun _ _ h => And.intro h.1 (hw.step h.2))
  have hyx := fun W (hw : OrdS w x y z A c B d C f W) => (compare_ok _ y x (Nat.le_refl _) B d A c W (Kd.C_below hB hw.2.2.2.2.2.2.2.2.2) hd (Kd.C_below hA hw.2.2.2.2.2.2.2.2.2) hc).mono (fun _ _ h => And.intro h.1 (hw.step h.2))
  have hxx := fun W (hw : OrdS w x y z A c B d C f W) => (compare_ok _ x x (Nat.le_refl _) A c A c W (Kd.C_below hA hw.2.2.2.2.2.2.2.2.2) hc (Kd.C_below hA hw.2.2.2.2.2.2.2.2.2) hc).mono (fun _ _ h => And.intro h.1 (hw.step h.2))
  have hsm := fun W (hw : OrdS w x y z A c B d C f W) => (same_calls x y A c B d W (Kd.C_below hA hw.2.2.2.2.2.2.2.2.2) hc (Kd.C_below hB hw.2.2.2.2.2.2.2.2.2) hd).mono (fun _ _ h => And.intro h.1 (hw.step h.2))
  have hS0 : OrdS w x y z A c B d C f (((w.alloc (.cells #[.bool x.f0, .string x.f1, .slice A x.f2.length c] 25)).alloc (.cells #[.bool y.f0, .string y.f1, .slice B y.f2.length d] 25)).alloc (.cells #[.bool z.f0, .string z.f1, .slice C z.f2.length f] 25)) := by
    obtain ⟨a0, a1, a2, _⟩ := box3s (blk_alloc (blk_mid (w := w) (.cells #[.bool x.f0, .string x.f1, .slice A x.f2.length c] 25) (.cells #[.bool y.f0, .string y.f1, .slice B y.f2.length d] 25)) (.cells #[.bool z.f0, .string z.f1, .slice C z.f2.length f] 25))
    obtain ⟨b0, b1, b2, _⟩ := box3s (blk_alloc (blk_top (w := w) (.cells #[.bool x.f0, .string x.f1, .slice A x.f2.length c] 25) (.cells #[.bool y.f0, .string y.f1, .slice B y.f2.length d] 25)) (.cells #[.bool z.f0, .string z.f1, .slice C z.f2.length f] 25))
    obtain ⟨c0, c1, c2, _⟩ := box3s (blk_third (w := w) (.cells #[.bool x.f0, .string x.f1, .slice A x.f2.length c] 25) (.cells #[.bool y.f0, .string y.f1, .slice B y.f2.length d] 25) (.cells #[.bool z.f0, .string z.f1, .slice C z.f2.length f] 25))
    exact ⟨a0, a1, a2, b0, b1, b2, c0, c1, c2, below_three _ _ _⟩
  have hT := cmpT_T x y z
  have hO := cmpT_O x y
  rw [cmpT_self] at hxx
  clear h0 h1 h2 hA hB hC hc hd hf hwx hwy hwz
  obtain ⟨hp, hyxe⟩ := hO
  have hq : (cmpT y z = -1 ∨ cmpT y z = 0 ∨ cmpT y z = 1) := (cmpT_O y z).1
  have hr : (cmpT x z = -1 ∨ cmpT x z = 0 ∨ cmpT x z = 1) := (cmpT_O x z).1
  rw [hyxe] at hyx
  clear hyxe
  generalize cmpT x y = p at *
  generalize cmpT y z = q at *
  generalize cmpT x z = r at *
  have HT := Lib.hid hT
  have HP := Lib.hid hp
  have HQ := Lib.hid hq
  have HR := Lib.hid hr
  clear hT hp hq hr
  generalize hm : ((w.alloc (.cells #[.bool x.f0, .string x.f1, .slice A x.f2.length c] 25)).alloc (.cells #[.bool y.f0, .string y.f1, .slice B y.f2.length d] 25)).alloc (.cells #[.bool z.f0, .string z.f1, .slice C z.f2.length f] 25) = W0 at hS0
  have HM := Lib.hid hm
  clear hm
  generalize greatB x = gx at *
  generalize greatB y = gy at *
  generalize greatB z = gz at *
  cases gx with
  | true =>
    clear hgy hgz hxy hyz hxz hyx hxx hsm HT HP HQ HR
    go_enter Try.func6, Try.ntmps6
    go_wp2_with (first
      | (go_at_call 40; rw [HM.out]; refine (hal _ hS0).mono ?_; rintro e W1 ⟨rfl, hN⟩; obtain ⟨x0, x1, x2, x3, x4, x5, x6, x7, x8, x9⟩ := id hN)
      | (go_at_call 14; (with_reducible refine (hgx _ hN).mono ?_); rintro e W1 ⟨rfl, hN⟩; obtain ⟨x0, x1, x2, x3, x4, x5, x6, x7, x8, x9⟩ := id hN))
    go_ret
    exact ⟨rfl, hN.2.2.2.2.2.2.2.2.2⟩
  | false =>
  cases gy with
  | true =>
    clear hgz hxy hyz hxz hyx hxx hsm HT HP HQ HR
    go_enter Try.func6, Try.ntmps6
    go_wp2_with (first
      | (go_at_call 40; rw [HM.out]; refine (hal _ hS0).mono ?_; rintro e W1 ⟨rfl, hN⟩; obtain ⟨x0, x1, x2, x3, x4, x5, x6, x7, x8, x9⟩ := id hN)
      | (go_at_call 14; (with_reducible refine (hgx _ hN).mono ?_); rintro e W1 ⟨rfl, hN⟩; obtain ⟨x0, x1, x2, x3, x4, x5, x6, x7, x8, x9⟩ := id hN)
      | (go_at_call 14; (with_reducible refine (hgy _ hN).mono ?_); rintro e W1 ⟨rfl, hN⟩; obtain ⟨x0, x1, x2, x3, x4, x5, x6, x7, x8, x9⟩ := id hN))
    go_ret
    exact ⟨rfl, hN.2.2.2.2.2.2.2.2.2⟩
  | false =>
  cases gz with
  | true =>
    clear hxy hyz hxz hyx hxx hsm HT HP HQ HR
    go_enter Try.func6, Try.ntmps6
    go_wp2_with (first
      | (go_at_call 40; rw [HM.out]; refine (hal _ hS0).mono ?_; rintro e W1 ⟨rfl, hN⟩; obtain ⟨x0, x1, x2, x3, x4, x5, x6, x7, x8, x9⟩ := id hN)
      | (go_at_call 14; (with_reducible refine (hgx _ hN).mono ?_); rintro e W1 ⟨rfl, hN⟩; obtain ⟨x0, x1, x2, x3, x4, x5, x6, x7, x8, x9⟩ := id hN)
      | (go_at_call 14; (with_reducible refine (hgy _ hN).mono ?_); rintro e W1 ⟨rfl, hN⟩; obtain ⟨x0, x1, x2, x3, x4, x5, x6, x7, x8, x9⟩ := id hN)
      | (go_at_call 14; (with_reducible refine (hgz _ hN).mono ?_); rintro e W1 ⟨rfl, hN⟩; obtain ⟨x0, x1, x2, x3, x4, x5, x6, x7, x8, x9⟩ := id hN))
    go_ret
    exact ⟨rfl, hN.2.2.2.2.2.2.2.2.2⟩
  | false =>
  go_enter Try.func6, Try.ntmps6
  go_wp2_with (first
    | (go_at_call 40; rw [HM.out]; refine (hal _ hS0).mono ?_; rintro e W1 ⟨rfl, hN⟩; obtain ⟨x0, x1, x2, x3, x4, x5, x6, x7, x8, x9⟩ := id hN)
    | (go_at_call 14; (with_reducible refine (hgx _ hN).mono ?_); rintro e W1 ⟨rfl, hN⟩; obtain ⟨x0, x1, x2, x3, x4, x5, x6, x7, x8, x9⟩ := id hN)
    | (go_at_call 14; (with_reducible refine (hgy _ hN).mono ?_); rintro e W1 ⟨rfl, hN⟩; obtain ⟨x0, x1, x2, x3, x4, x5, x6, x7, x8, x9⟩ := id hN)
    | (go_at_call 14; (with_reducible refine (hgz _ hN).mono ?_); rintro e W1 ⟨rfl, hN⟩; obtain ⟨x0, x1, x2, x3, x4, x5, x6, x7, x8, x9⟩ := id hN))
  have hN0 : OrdS w x y z A c B d C f W1.drew := hN.step (below_drew1 (Below.refl _ _))
  clear hgx hgy hgz hal hS0
  go_region_held3 (fun W => OrdS w x y z A c B d C f W)
    (first | (with_reducible exact hN0) | (with_reducible assumption))
    (first | (go_at_call 33; (with_reducible refine (hxy _ (by with_reducible assumption)).mono ?_); rintro e W1 ⟨rfl, hN⟩) | (go_at_call 33; (with_reducible refine (hyz _ (by with_reducible assumption)).mono ?_); rintro e W1 ⟨rfl, hN⟩) | (go_at_call 33; (with_reducible refine (hxz _ (by with_reducible assumption)).mono ?_); rintro e W1 ⟨rfl, hN⟩))
  clear hxy hyz hxz hN0
  obtain ⟨x0, x1, x2, x3, x4, x5, x6, x7, x8, x9⟩ := id hN
  have hyx2 := fun p' (h : p' = -p) W hw => (h ▸ hyx W hw : Calls Try.prog 33 #[.agg #[.bool y.f0, .string y.f1, .slice B y.f2.length d], .agg #[.bool x.f0, .string x.f1, .slice A x.f2.length c]] W fun e w' => e = .returned (.int .i64 p') ∧ OrdS w x y z A c B d C f w')
  clear hyx
  rcases HP.out with rfl | rfl | rfl
  · have hyx := hyx2 (1) rfl
    have hsm : ∀ W, OrdS w x y z A c B d C f W → Calls Try.prog 35 #[.agg #[.bool x.f0, .string x.f1, .slice A x.f2.length c], .agg #[.bool y.f0, .string y.f1, .slice B y.f2.length d]] W fun e w' => e = .returned (.bool false) ∧ OrdS w x y z A c B d C f w' := hsm
    have hT3 := HT.out
    unfold T3 at hT3
    rcases HQ.out with rfl | rfl | rfl <;> rcases HR.out with rfl | rfl | rfl <;> (try (exfalso; omega))
    all_goals clear hT3 HT HP HQ HR hyx2
    all_goals go_wp2_with (first | (go_at_call 33; (with_reducible refine (hxx _ hN).mono ?_); rintro e W1 ⟨rfl, hN⟩; obtain ⟨x0, x1, x2, x3, x4, x5, x6, x7, x8, x9⟩ := id hN) | (go_at_call 33; (with_reducible refine (hyx _ hN).mono ?_); rintro e W1 ⟨rfl, hN⟩; obtain ⟨x0, x1, x2, x3, x4, x5, x6, x7, x8, x9⟩ := id hN) | (go_at_call 35; (with_reducible refine (hsm _ hN).mono ?_); rintro e W1 ⟨rfl, hN⟩; obtain ⟨x0, x1, x2, x3, x4, x5, x6, x7, x8, x9⟩ := id hN))
    all_goals go_ret
    all_goals exact ⟨rfl, hN.2.2.2.2.2.2.2.2.2⟩
  · have hyx := hyx2 (0) rfl
    have hsm : ∀ W, OrdS w x y z A c B d C f W → Calls Try.prog 35 #[.agg #[.bool x.f0, .string x.f1, .slice A x.f2.length c], .agg #[.bool y.f0, .string y.f1, .slice B y.f2.length d]] W fun e w' => e = .returned (.bool true) ∧ OrdS w x y z A c B d C f w' := hsm
    have hT3 := HT.out
    unfold T3 at hT3
    rcases HQ.out with rfl | rfl | rfl <;> rcases HR.out with rfl | rfl | rfl <;> (try (exfalso; omega))
    all_goals clear hT3 HT HP HQ HR hyx2
    all_goals go_wp2_with (first | (go_at_call 33; (with_reducible refine (hxx _ hN).mono ?_); rintro e W1 ⟨rfl, hN⟩; obtain ⟨x0, x1, x2, x3, x4, x5, x6, x7, x8, x9⟩ := id hN) | (go_at_call 33; (with_reducible refine (hyx _ hN).mono ?_); rintro e W1 ⟨rfl, hN⟩; obtain ⟨x0, x1, x2, x3, x4, x5, x6, x7, x8, x9⟩ := id hN) | (go_at_call 35; (with_reducible refine (hsm _ hN).mono ?_); rintro e W1 ⟨rfl, hN⟩; obtain ⟨x0, x1, x2, x3, x4, x5, x6, x7, x8, x9⟩ := id hN))
    all_goals go_ret
    all_goals exact ⟨rfl, hN.2.2.2.2.2.2.2.2.2⟩
  · have hyx := hyx2 (-1) rfl
    have hsm : ∀ W, OrdS w x y z A c B d C f W → Calls Try.prog 35 #[.agg #[.bool x.f0, .string x.f1, .slice A x.f2.length c], .agg #[.bool y.f0, .string y.f1, .slice B y.f2.length d]] W fun e w' => e = .returned (.bool false) ∧ OrdS w x y z A c B d C f w' := hsm
    have hT3 := HT.out
    unfold T3 at hT3
    rcases HQ.out with rfl | rfl | rfl <;> rcases HR.out with rfl | rfl | rfl <;> (try (exfalso; omega))
    all_goals clear hT3 HT HP HQ HR hyx2
    all_goals go_wp2_with (first | (go_at_call 33; (with_reducible refine (hxx _ hN).mono ?_); rintro e W1 ⟨rfl, hN⟩; obtain ⟨x0, x1, x2, x3, x4, x5, x6, x7, x8, x9⟩ := id hN) | (go_at_call 33; (with_reducible refine (hyx _ hN).mono ?_); rintro e W1 ⟨rfl, hN⟩; obtain ⟨x0, x1, x2, x3, x4, x5, x6, x7, x8, x9⟩ := id hN) | (go_at_call 35; (with_reducible refine (hsm _ hN).mono ?_); rintro e W1 ⟨rfl, hN⟩; obtain ⟨x0, x1, x2, x3, x4, x5, x6, x7, x8, x9⟩ := id hN))
    all_goals go_ret
    all_goals exact ⟨rfl, hN.2.2.2.2.2.2.2.2.2⟩
end Go.Proofs.Ytgnklkmifcmlhaa.Q
