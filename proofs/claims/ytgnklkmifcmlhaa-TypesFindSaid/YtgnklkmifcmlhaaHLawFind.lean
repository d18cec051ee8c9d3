/- Proved here: the walk of the law TypesFind. Conditions: those that each theorem names. -/
import Derived.Test.YtgnklkmifcmlhaaHAlive
import Derived.Test.YtgnklkmifcmlhaaHFindL
import Derived.Test.YtgnklkmifcmlhaaHRefG
import Derived.Test.YtgnklkmifcmlhaaHMatchZ
import Derived.Test.YtgnklkmifcmlhaaHOpen
namespace Go.Proofs.Ytgnklkmifcmlhaa.Q
open Go.RowKit Go.Shelf Go.Proofs.YtgnklkmifcmlhaaW.PrintWords Go.Proofs.YtgnklkmifcmlhaaW.PrintMore
set_option linter.unusedVariables false
set_option linter.unusedSimpArgs false
attribute [local go_sem] Oper.semAt_some

abbrev FnS (w : World) (p t : S25) (A : Option Addr) (c : Nat) (B : Option Addr) (d : Nat) (W : World) : Prop :=
  W.cell? ⟨w.heap.size, 0, none⟩ = some (.bool p.f0) ∧ W.cell? ⟨w.heap.size, 1, none⟩ = some (.string p.f1) ∧ W.cell? ⟨w.heap.size, 2, none⟩ = some (.slice A p.f2.length c) ∧
    W.cell? ⟨w.heap.size + 1, 0, none⟩ = some (.bool t.f0) ∧ W.cell? ⟨w.heap.size + 1, 1, none⟩ = some (.string t.f1) ∧ W.cell? ⟨w.heap.size + 1, 2, none⟩ = some (.slice B t.f2.length d) ∧ w.heap.size < W.heap.size ∧ w.heap.size + 1 < W.heap.size ∧ Below w.heap.size w W
theorem FnS.step {w : World} {p t : S25} {A : Option Addr} {c : Nat} {B : Option Addr} {d : Nat} {W W' : World} (h : FnS w p t A c B d W) (hb : Below W.heap.size W W') : FnS w p t A c B d W' :=
  ⟨pw_cell_below hb h.1, pw_cell_below hb h.2.1, pw_cell_below hb h.2.2.1, pw_cell_below hb h.2.2.2.1, pw_cell_below hb h.2.2.2.2.1, pw_cell_below hb h.2.2.2.2.2.1, Nat.lt_of_lt_of_le h.2.2.2.2.2.2.1 hb.size, Nat.lt_of_lt_of_le h.2.2.2.2.2.2.2.1 hb.size, below_step h.2.2.2.2.2.2.2.2 hb⟩
theorem FnS.below {w : World} {p t : S25} {A : Option Addr} {c : Nat} {B : Option Addr} {d : Nat} {W : World} (h : FnS w p t A c B d W) : Below w.heap.size w W := h.2.2.2.2.2.2.2.2
theorem C_take {α : Type} {k : Kd α} {W : World} {A : Option Addr} {l : List α} (h : k.C W A l.length l) (n : Nat) (hn : n ≤ l.length) : k.C W A n (l.take n) := by
  obtain ⟨h1, h2, h3⟩ := h
  refine ⟨by rw [List.length_take]; omega, by omega, fun hp => ?_⟩
  obtain ⟨ad, ha, hr⟩ := h3 (by omega)
  refine ⟨ad, ha, fun j x hj => hr j x ?_⟩
  rw [List.getElem?_take] at hj
  split at hj
  · exact hj
  · simp at hj

theorem instF_q (s : List S59) (t : S25) : (instF s t).2 = 0 ∨ (instF s t).2 = 10 ∨ (instF s t).2 = 21 := by
  unfold instF
  split
  · split <;> simp
  · simp
set_option maxHeartbeats 4000000 in
set_option maxRecDepth 100000 in
theorem law_find (p : S25) (A : Option Addr) (c : Nat) (t : S25) (B : Option Addr) (d : Nat) (s : List S59) (D : Option Addr) (f : Nat) (r : List S59) (E : Option Addr) (g : Nat) (w : World) (hA : k25.C w A p.f2.length p.f2) (hc : p.f2.length ≤ c) (hwp : wd p)
    (hB : k25.C w B t.f2.length t.f2) (hd : t.f2.length ≤ d) (hwt : wd t) (hD : k59.C w D s.length s) (hf : s.length ≤ f) (hsl : s.length ≤ 4611686018427387904) (hws : ∀ b, b ∈ s → wdB b) (hE : k59.C w E r.length r) (hg : r.length ≤ g) (hrl : r.length ≤ 4611686018427387904) (hwr : ∀ b, b ∈ r → wdB b) :
    Calls Try.prog 9 #[.agg #[.bool p.f0, .string p.f1, .slice A p.f2.length c], .agg #[.bool t.f0, .string t.f1, .slice B t.f2.length d], .slice D s.length f, .slice E r.length g] w fun e w' => e = .returned (.bool true) ∧ Below w.heap.size w w' := by
  obtain ⟨k0, h0⟩ := (great_ev p hwp).at
  obtain ⟨k1, h1⟩ := (great_ev t hwt).at
  obtain ⟨k2, h2⟩ := (greats_ev s hws).at
  obtain ⟨k3, h3⟩ := (greats_ev r hwr).at
  have hal := fun W (hw : FnS w p t A c B d W) => (alive_calls W).mono (fun _ _ h => And.intro h.1 (hw.step h.2))
  have hgp := fun W (hw : FnS w p t A c B d W) => (sequentref01_Great.calls k0 p.f0 p.f1 A c p.f2 _ W (Kd.C_below hA hw.below) hc h0).mono (fun _ _ h => And.intro h.1 (hw.step h.2))
  have hgt := fun W (hw : FnS w p t A c B d W) => (sequentref01_Great.calls k1 t.f0 t.f1 B d t.f2 _ W (Kd.C_below hB hw.below) hd h1).mono (fun _ _ h => And.intro h.1 (hw.step h.2))
  have hgs := fun W (hw : FnS w p t A c B d W) => (sequentref01_GreatBinds.calls k2 D f s _ W (Kd.C_below hD hw.below) hf h2).mono (fun _ _ h => And.intro h.1 (hw.step h.2))
  have hgr := fun W (hw : FnS w p t A c B d W) => (sequentref01_GreatBinds.calls k3 E g r _ W (Kd.C_below hE hw.below) hg h3).mono (fun _ _ h => And.intro h.1 (hw.step h.2))
  have hS0 : FnS w p t A c B d ((w.alloc (.cells #[.bool p.f0, .string p.f1, .slice A p.f2.length c] 25)).alloc (.cells #[.bool t.f0, .string t.f1, .slice B t.f2.length d] 25)) := by
    obtain ⟨a0, a1, a2, _⟩ := box3s (blk_mid (w := w) (.cells #[.bool p.f0, .string p.f1, .slice A p.f2.length c] 25) (.cells #[.bool t.f0, .string t.f1, .slice B t.f2.length d] 25))
    obtain ⟨b0, b1, b2, _⟩ := box3s (blk_top (w := w) (.cells #[.bool p.f0, .string p.f1, .slice A p.f2.length c] 25) (.cells #[.bool t.f0, .string t.f1, .slice B t.f2.length d] 25))
    exact ⟨a0, a1, a2, b0, b1, b2, by simp; omega, by simp, below_two _ _⟩
  clear h0 h1 h2 h3
  by_cases hany : (greatB p = true ∨ greatB t = true) ∨ (greatS s = true ∨ greatS r = true)
  · have key : ∀ b : Bool, b = true ∨ b = false := fun b => by cases b <;> simp
    clear hA hB hD hE
    rcases key (greatB p) with e0 | e0 <;> rw [e0] at hgp
    case inl =>
      clear hgt hgs hgr
      go_enter Try.func9, Try.ntmps9
      go_wp2_with (first
      | (go_at_call 14; (with_reducible refine (hgp _ hN).mono ?_); rintro e W1 ⟨rfl, hN⟩; obtain ⟨x0, x1, x2, x3, x4, x5, x6, x7, x8⟩ := id hN)
      | (go_at_call 40; refine (hal _ hS0).mono ?_; rintro e W1 ⟨rfl, hN⟩; obtain ⟨x0, x1, x2, x3, x4, x5, x6, x7, x8⟩ := id hN))
      go_ret
      exact ⟨rfl, hN.below⟩
    rcases key (greatB t) with e1 | e1 <;> rw [e1] at hgt
    case inl =>
      clear hgs hgr
      go_enter Try.func9, Try.ntmps9
      go_wp2_with (first
      | (go_at_call 14; (with_reducible refine (hgt _ hN).mono ?_); rintro e W1 ⟨rfl, hN⟩; obtain ⟨x0, x1, x2, x3, x4, x5, x6, x7, x8⟩ := id hN)
      | (go_at_call 14; (with_reducible refine (hgp _ hN).mono ?_); rintro e W1 ⟨rfl, hN⟩; obtain ⟨x0, x1, x2, x3, x4, x5, x6, x7, x8⟩ := id hN)
      | (go_at_call 40; refine (hal _ hS0).mono ?_; rintro e W1 ⟨rfl, hN⟩; obtain ⟨x0, x1, x2, x3, x4, x5, x6, x7, x8⟩ := id hN))
      go_ret
      exact ⟨rfl, hN.below⟩
    rcases key (greatS s) with e2 | e2 <;> rw [e2] at hgs
    case inl =>
      clear hgr
      go_enter Try.func9, Try.ntmps9
      go_wp2_with (first
      | (go_at_call 13; (with_reducible refine (hgs _ hN).mono ?_); rintro e W1 ⟨rfl, hN⟩; obtain ⟨x0, x1, x2, x3, x4, x5, x6, x7, x8⟩ := id hN)
      | (go_at_call 14; (with_reducible refine (hgt _ hN).mono ?_); rintro e W1 ⟨rfl, hN⟩; obtain ⟨x0, x1, x2, x3, x4, x5, x6, x7, x8⟩ := id hN)
      | (go_at_call 14; (with_reducible refine (hgp _ hN).mono ?_); rintro e W1 ⟨rfl, hN⟩; obtain ⟨x0, x1, x2, x3, x4, x5, x6, x7, x8⟩ := id hN)
      | (go_at_call 40; refine (hal _ hS0).mono ?_; rintro e W1 ⟨rfl, hN⟩; obtain ⟨x0, x1, x2, x3, x4, x5, x6, x7, x8⟩ := id hN))
      go_ret
      exact ⟨rfl, hN.below⟩
    rcases key (greatS r) with e3 | e3 <;> rw [e3] at hgr
    case inl =>
      go_enter Try.func9, Try.ntmps9
      go_wp2_with (first
      | (go_at_call 13; (with_reducible refine (hgr _ hN).mono ?_); rintro e W1 ⟨rfl, hN⟩; obtain ⟨x0, x1, x2, x3, x4, x5, x6, x7, x8⟩ := id hN)
      | (go_at_call 13; (with_reducible refine (hgs _ hN).mono ?_); rintro e W1 ⟨rfl, hN⟩; obtain ⟨x0, x1, x2, x3, x4, x5, x6, x7, x8⟩ := id hN)
      | (go_at_call 14; (with_reducible refine (hgt _ hN).mono ?_); rintro e W1 ⟨rfl, hN⟩; obtain ⟨x0, x1, x2, x3, x4, x5, x6, x7, x8⟩ := id hN)
      | (go_at_call 14; (with_reducible refine (hgp _ hN).mono ?_); rintro e W1 ⟨rfl, hN⟩; obtain ⟨x0, x1, x2, x3, x4, x5, x6, x7, x8⟩ := id hN)
      | (go_at_call 40; refine (hal _ hS0).mono ?_; rintro e W1 ⟨rfl, hN⟩; obtain ⟨x0, x1, x2, x3, x4, x5, x6, x7, x8⟩ := id hN))
      go_ret
      exact ⟨rfl, hN.below⟩
    exact absurd hany (by rw [e0, e1, e2, e3]; simp)
  · simp only [not_or, Bool.not_eq_true] at hany
    obtain ⟨⟨e0, e1⟩, e2, e3⟩ := hany
    rw [e0] at hgp
    rw [e1] at hgt
    rw [e2] at hgs
    rw [e3] at hgr
    have hpp := greatB_sz e0
    have htt := greatB_sz e1
    have hss := greatS_mem e2
    have hrr := greatS_mem e3
    have hfp := fit_of_wd hwp (by omega)
    have hft := fit_of_wd hwt (by omega)
    have hfs : ∀ b, b ∈ s → fitB b := fun b hb => ⟨(hws b hb).1, fit_of_wd (hws b hb).2 (by have := (hss.2 b hb).1; omega)⟩
    have hfr : ∀ b, b ∈ r → fitB b := fun b hb => ⟨(hwr b hb).1, fit_of_wd (hwr b hb).2 (by have := (hrr.2 b hb).1; omega)⟩
    clear e0 e1 e2 e3
    obtain ⟨k4, h4⟩ := (samebinds_ev s (by omega) (fun b hb => by have := (hss.2 b hb).1; omega)).at
    have hM := fun W (hw : FnS w p t A c B d W) => (match_walk p t s A c B d D f W (Kd.C_below hA hw.below) (Kd.C_below hB hw.below) hc hd (Kd.C_below hD hw.below) hf hfp hft hfs (by omega)).mono (R' := fun e w' => ∃ A2 c2, e = .returned (.tuple #[.slice A2 (matchF p t s).1.length c2, .bool (matchF p t s).2.1, .int .i64 (matchF p t s).2.2]) ∧ (matchF p t s).1.length ≤ c2 ∧ k59.C w' A2 (matchF p t s).1.length (matchF p t s).1 ∧ Below W.heap.size W w' ∧ FnS w p t A c B d w')
      (fun _ _ ⟨A2, c2, h1, h2, h3, h4⟩ => ⟨A2, c2, h1, h2, h3, h4, hw.step h4⟩)
    have hSB := fun W A2 c2 (hw : FnS w p t A c B d W) hC hl => (sequentref01_SameBinds.calls k4 A2 c2 s D f s true W hC hl (Kd.C_below hD hw.below) hf h4).mono (fun _ _ h => And.intro h.1 (And.intro h.2 (hw.step h.2)))
    have hI := fun (l : List S59) (hlf : ∀ b, b ∈ l → fitB b) W A2 c2 (hw : FnS w p t A c B d W) (hC : k59.C W A2 l.length l) (hl : l.length ≤ c2) => (inst_walk A2 c2 l p A c W hC hl (Kd.C_below hA hw.below) hc hlf hfp).mono (R' := fun e w' => ∃ A3 c3, e = .returned (.tuple #[.agg #[.bool (instF l p).1.f0, .string (instF l p).1.f1, .slice A3 (instF l p).1.f2.length c3], .int .i64 (instF l p).2]) ∧ (instF l p).1.f2.length ≤ c3 ∧ k25.C w' A3 (instF l p).1.f2.length (instF l p).1.f2 ∧ Below W.heap.size W w' ∧ FnS w p t A c B d w')
      (fun _ _ ⟨v, h1, h2, h3⟩ => by obtain ⟨A3, c3, rfl, hl3, hC3⟩ := h2.reads; exact ⟨A3, c3, h1, hl3, hC3, h3, hw.step h3⟩)
    have hIr := fun W (hw : FnS w p t A c B d W) => hI r hfr W E g hw (Kd.C_below hE hw.below) hg
    have hMy : ∀ (y : S25), fit y → ∀ W A3 c3, FnS w p t A c B d W → k25.C W A3 y.f2.length y.f2 → y.f2.length ≤ c3 → Calls Try.prog 20 #[.agg #[.bool p.f0, .string p.f1, .slice A p.f2.length c], .agg #[.bool y.f0, .string y.f1, .slice A3 y.f2.length c3], .slice none 0 0] W
        (fun e w' => ∃ A2 c2, e = .returned (.tuple #[.slice A2 (matchF p y []).1.length c2, .bool (matchF p y []).2.1, .int .i64 (matchF p y []).2.2]) ∧ (matchF p y []).1.length ≤ c2 ∧ k59.C w' A2 (matchF p y []).1.length (matchF p y []).1 ∧ Below W.heap.size W w' ∧ FnS w p t A c B d w') :=
      fun y hfy W A3 c3 hw hC hl => (match_walk p y [] A c A3 c3 none 0 W (Kd.C_below hA hw.below) hC hc hl (nilB _ _) (Nat.le_refl _) hfp hfy (fun b hb => by simp at hb) (by simp)).mono
      (fun _ _ ⟨A2, c2, h1, h2, h3, h4⟩ => ⟨A2, c2, h1, h2, h3, h4, hw.step h4⟩)
    have hSy : ∀ (y : S25) W A2 c2 A3 c3, FnS w p t A c B d W → k25.C W A2 y.f2.length y.f2 → y.f2.length ≤ c2 → k25.C W A3 y.f2.length y.f2 → y.f2.length ≤ c3 → Calls Try.prog 35 #[.agg #[.bool y.f0, .string y.f1, .slice A2 y.f2.length c2], .agg #[.bool y.f0, .string y.f1, .slice A3 y.f2.length c3]] W fun e w' => e = .returned (.bool true) ∧ Below W.heap.size W w' ∧ FnS w p t A c B d w' := fun y W A2 c2 A3 c3 hw hC hl hC' hl' => by
      have h := same_calls y y A2 c2 A3 c3 W hC hl hC' hl'
      rw [cmpT_self] at h
      exact h.mono (fun _ _ h => And.intro h.1 (And.intro h.2 (hw.step h.2)))
    have hq : (instF r p).2 = 0 ∨ (instF r p).2 = 10 ∨ (instF r p).2 = 21 := instF_q r p
    have hy : (instF r p).2 = 0 → fit (instF r p).1 ∧ ∃ m, matchF p (instF r p).1 [] = (m, true, 0) ∧ instF m p = ((instF r p).1, 0) ∧ ∀ b, b ∈ m → fitB b := fun h => by
      obtain ⟨_, _, he, hk⟩ := instF_ok h
      obtain ⟨m, h1, h2⟩ := find_complete h
      exact ⟨by rw [he]; exact chkB_fit hk, m, h1, h2, vldB_fit (find_sound h1).2.2.2.2.1⟩
    cases hm : (matchF p t s).2.1 with
    | true =>
      obtain ⟨hq0, hi, htk, hle, hvl, hct⟩ := find_sound (p := p) (t := t) (s := s) (l := (matchF p t s).1) (q := (matchF p t s).2.2) (by rw [← hm])
      have hIl := hI _ (vldB_fit hvl)
      rw [hi] at hIl
      rw [hm, hq0] at hM
      have hSBl : ∀ W A2 c2, FnS w p t A c B d W → k59.C W A2 (matchF p t s).1.length (matchF p t s).1 → (matchF p t s).1.length ≤ c2 → Calls Try.prog 22 #[.slice A2 s.length c2, .slice D s.length f] W fun e w' => e = .returned (.bool true) ∧ Below W.heap.size W w' ∧ FnS w p t A c B d w' := fun W A2 c2 hw hC hl => by
        have h := C_take hC s.length hle
        rw [htk] at h
        exact hSB W A2 c2 hw h (Nat.le_trans hle hl)
      have hSt := fun W A2 c2 (hw : FnS w p t A c B d W) hC hl => hSy t W A2 c2 B d hw hC hl (Kd.C_below hB hw.below) hd
      clear hSB hm h4 hq0 hi htk hvl hct
      generalize (matchF p t s).1 = l at *
      have hd1 : decide (l.length < s.length) = false := decide_eq_false (by omega)
      have hd2 : decide ((l.length : Int) < (s.length : Int)) = false := decide_eq_false (by omega)
      rcases hq with hq | hq | hq
      · obtain ⟨hfy, m, hm1, hm2, hfm⟩ := hy hq
        have hMy := hMy _ hfy
        have hIm := hI m hfm
        rw [hm1] at hMy
        rw [hm2] at hIm
        rw [hq] at hIr
        have hSy := hSy (instF r p).1
        clear hI hm1 hm2 hfm hfy hq hy
        generalize (instF r p).1 = y at *
        go_enter Try.func9, Try.ntmps9
        go_wp2_with (first
          | (go_at_call 35; (with_reducible refine (hSy _ A5 c5 A3 c3 (hN.step (below_one _)) (Kd.C_below hC5 (below_one _)) hl5 (Kd.C_below hC35 (below_one _)) hl3).mono ?_); rintro e W6 ⟨rfl, _, hN⟩)
          | (go_at_call 16; (with_reducible refine (hIm _ A4 c4 hN hC4 hl4).mono ?_); rintro e W5 ⟨A5, c5, rfl, hl5, hC5, hc5, hN⟩; obtain ⟨x0, x1, x2, x3, x4, x5, x6, x7, x8⟩ := id hN; have hC35 := Kd.C_below (Kd.C_below hC3' hc4) hc5; obtain ⟨y0, y1, y2, _, _, _, y6⟩ := box3s (blk_below (blk_below BY3 hc4) hc5))
          | (go_at_call 20; (with_reducible refine (hMy _ A3 c3 hN3 hC3' hl3).mono ?_); rintro e W1 ⟨A4, c4, rfl, hl4, hC4, hc4, hN⟩; obtain ⟨x0, x1, x2, x3, x4, x5, x6, x7, x8⟩ := id hN; obtain ⟨y0, y1, y2, _, _, _, y6⟩ := box3s (blk_below BY3 hc4))
          | (go_at_call 16; (with_reducible refine (hIr _ hN).mono ?_); rintro e W3 ⟨A3, c3, rfl, hl3, hC3, hc3, hN⟩; obtain ⟨x0, x1, x2, x3, x4, x5, x6, x7, x8⟩ := id hN; have hb3 := below_one (w := W3) (.cells #[.bool y.f0, .string y.f1, .slice A3 y.f2.length c3] 25); have hN3 := hN.step hb3; have hC3' := Kd.C_below hC3 hb3; have BY3 := blk_new W3 (.cells #[.bool y.f0, .string y.f1, .slice A3 y.f2.length c3] 25))
          | (go_at_call 22; (with_reducible refine (hSBl _ A2 c2 hN hCl hl2).mono ?_); rintro e W1 ⟨rfl, hcl, hN⟩; obtain ⟨x0, x1, x2, x3, x4, x5, x6, x7, x8⟩ := id hN; have hC2 := Kd.C_below hCl hcl)
          | (go_at_call 35; (with_reducible refine (hSt _ A3 c3 (hN.step (below_one _)) (Kd.C_below hC3 (below_one _)) hl3).mono ?_); rintro e W1 ⟨rfl, hcs, hN⟩; have hCl := Kd.C_below (Kd.C_below hCl (below_one _)) hcs; obtain ⟨x0, x1, x2, x3, x4, x5, x6, x7, x8⟩ := id hN)
          | (go_at_call 16; (with_reducible refine (hIl _ A2 c2 hN hC2 hl2).mono ?_); rintro e W1 ⟨A3, c3, rfl, hl3, hC3, hc3, hN⟩; obtain ⟨x0, x1, x2, x3, x4, x5, x6, x7, x8⟩ := id hN; have hCl := Kd.C_below hC2 hc3)
          | (go_at_call 20; (with_reducible refine (hM _ hN).mono ?_); rintro e W1 ⟨A2, c2, rfl, hl2, hC2, hc2, hN⟩; obtain ⟨x0, x1, x2, x3, x4, x5, x6, x7, x8⟩ := id hN)
          | (go_at_call 13; (with_reducible refine (hgr _ hN).mono ?_); rintro e W1 ⟨rfl, hN⟩; obtain ⟨x0, x1, x2, x3, x4, x5, x6, x7, x8⟩ := id hN)
          | (go_at_call 13; (with_reducible refine (hgs _ hN).mono ?_); rintro e W1 ⟨rfl, hN⟩; obtain ⟨x0, x1, x2, x3, x4, x5, x6, x7, x8⟩ := id hN)
          | (go_at_call 14; (with_reducible refine (hgt _ hN).mono ?_); rintro e W1 ⟨rfl, hN⟩; obtain ⟨x0, x1, x2, x3, x4, x5, x6, x7, x8⟩ := id hN)
          | (go_at_call 14; (with_reducible refine (hgp _ hN).mono ?_); rintro e W1 ⟨rfl, hN⟩; obtain ⟨x0, x1, x2, x3, x4, x5, x6, x7, x8⟩ := id hN)
          | (go_at_call 40; refine (hal _ hS0).mono ?_; rintro e W1 ⟨rfl, hN⟩; obtain ⟨x0, x1, x2, x3, x4, x5, x6, x7, x8⟩ := id hN))
        all_goals (go_ret; exact ⟨rfl, hN.below⟩)
      all_goals
        rw [hq] at hIr
        clear hI hMy hSy hy
        go_enter Try.func9, Try.ntmps9
        go_wp2_with (first
          | (go_at_call 16; (with_reducible refine (hIr _ hN).mono ?_); rintro e W1 ⟨A3, c3, rfl, hl3, hC3, hc3, hN⟩; obtain ⟨x0, x1, x2, x3, x4, x5, x6, x7, x8⟩ := id hN)
          | (go_at_call 22; (with_reducible refine (hSBl _ A2 c2 hN hCl hl2).mono ?_); rintro e W1 ⟨rfl, hcl, hN⟩; obtain ⟨x0, x1, x2, x3, x4, x5, x6, x7, x8⟩ := id hN; have hC2 := Kd.C_below hCl hcl)
          | (go_at_call 35; (with_reducible refine (hSt _ A3 c3 (hN.step (below_one _)) (Kd.C_below hC3 (below_one _)) hl3).mono ?_); rintro e W1 ⟨rfl, hcs, hN⟩; have hCl := Kd.C_below (Kd.C_below hCl (below_one _)) hcs; obtain ⟨x0, x1, x2, x3, x4, x5, x6, x7, x8⟩ := id hN)
          | (go_at_call 16; (with_reducible refine (hIl _ A2 c2 hN hC2 hl2).mono ?_); rintro e W1 ⟨A3, c3, rfl, hl3, hC3, hc3, hN⟩; obtain ⟨x0, x1, x2, x3, x4, x5, x6, x7, x8⟩ := id hN; have hCl := Kd.C_below hC2 hc3)
          | (go_at_call 20; (with_reducible refine (hM _ hN).mono ?_); rintro e W1 ⟨A2, c2, rfl, hl2, hC2, hc2, hN⟩; obtain ⟨x0, x1, x2, x3, x4, x5, x6, x7, x8⟩ := id hN)
          | (go_at_call 13; (with_reducible refine (hgr _ hN).mono ?_); rintro e W1 ⟨rfl, hN⟩; obtain ⟨x0, x1, x2, x3, x4, x5, x6, x7, x8⟩ := id hN)
          | (go_at_call 13; (with_reducible refine (hgs _ hN).mono ?_); rintro e W1 ⟨rfl, hN⟩; obtain ⟨x0, x1, x2, x3, x4, x5, x6, x7, x8⟩ := id hN)
          | (go_at_call 14; (with_reducible refine (hgt _ hN).mono ?_); rintro e W1 ⟨rfl, hN⟩; obtain ⟨x0, x1, x2, x3, x4, x5, x6, x7, x8⟩ := id hN)
          | (go_at_call 14; (with_reducible refine (hgp _ hN).mono ?_); rintro e W1 ⟨rfl, hN⟩; obtain ⟨x0, x1, x2, x3, x4, x5, x6, x7, x8⟩ := id hN)
          | (go_at_call 40; refine (hal _ hS0).mono ?_; rintro e W1 ⟨rfl, hN⟩; obtain ⟨x0, x1, x2, x3, x4, x5, x6, x7, x8⟩ := id hN))
        all_goals (go_ret; exact ⟨rfl, hN.below.alloc hN.below.size _⟩)
    | false =>
      have hl0 := find_none hm
      rw [hm, hl0] at hM
      clear hSB hm hl0 h4
      rcases hq with hq | hq | hq
      · obtain ⟨hfy, m, hm1, hm2, hfm⟩ := hy hq
        have hMy := hMy _ hfy
        have hIm := hI m hfm
        rw [hm1] at hMy
        rw [hm2] at hIm
        rw [hq] at hIr
        have hSy := hSy (instF r p).1
        clear hI hm1 hm2 hfm hfy hq hy
        generalize (instF r p).1 = y at *
        go_enter Try.func9, Try.ntmps9
        go_wp2_with (first
          | (go_at_call 35; (with_reducible refine (hSy _ A5 c5 A3 c3 (hN.step (below_one _)) (Kd.C_below hC5 (below_one _)) hl5 (Kd.C_below hC35 (below_one _)) hl3).mono ?_); rintro e W6 ⟨rfl, _, hN⟩)
          | (go_at_call 16; (with_reducible refine (hIm _ A4 c4 hN hC4 hl4).mono ?_); rintro e W5 ⟨A5, c5, rfl, hl5, hC5, hc5, hN⟩; obtain ⟨x0, x1, x2, x3, x4, x5, x6, x7, x8⟩ := id hN; have hC35 := Kd.C_below (Kd.C_below hC3' hc4) hc5; obtain ⟨y0, y1, y2, _, _, _, y6⟩ := box3s (blk_below (blk_below BY3 hc4) hc5))
          | (go_at_call 20; (with_reducible refine (hMy _ A3 c3 hN3 hC3' hl3).mono ?_); rintro e W1 ⟨A4, c4, rfl, hl4, hC4, hc4, hN⟩; obtain ⟨x0, x1, x2, x3, x4, x5, x6, x7, x8⟩ := id hN; obtain ⟨y0, y1, y2, _, _, _, y6⟩ := box3s (blk_below BY3 hc4))
          | (go_at_call 16; (with_reducible refine (hIr _ hN).mono ?_); rintro e W3 ⟨A3, c3, rfl, hl3, hC3, hc3, hN⟩; obtain ⟨x0, x1, x2, x3, x4, x5, x6, x7, x8⟩ := id hN; have hb3 := below_one (w := W3) (.cells #[.bool y.f0, .string y.f1, .slice A3 y.f2.length c3] 25); have hN3 := hN.step hb3; have hC3' := Kd.C_below hC3 hb3; have BY3 := blk_new W3 (.cells #[.bool y.f0, .string y.f1, .slice A3 y.f2.length c3] 25))
          | (go_at_call 20; (with_reducible refine (hM _ hN).mono ?_); rintro e W1 ⟨A2, c2, rfl, hl2, hC2, hc2, hN⟩; obtain ⟨x0, x1, x2, x3, x4, x5, x6, x7, x8⟩ := id hN)
          | (go_at_call 13; (with_reducible refine (hgr _ hN).mono ?_); rintro e W1 ⟨rfl, hN⟩; obtain ⟨x0, x1, x2, x3, x4, x5, x6, x7, x8⟩ := id hN)
          | (go_at_call 13; (with_reducible refine (hgs _ hN).mono ?_); rintro e W1 ⟨rfl, hN⟩; obtain ⟨x0, x1, x2, x3, x4, x5, x6, x7, x8⟩ := id hN)
          | (go_at_call 14; (with_reducible refine (hgt _ hN).mono ?_); rintro e W1 ⟨rfl, hN⟩; obtain ⟨x0, x1, x2, x3, x4, x5, x6, x7, x8⟩ := id hN)
          | (go_at_call 14; (with_reducible refine (hgp _ hN).mono ?_); rintro e W1 ⟨rfl, hN⟩; obtain ⟨x0, x1, x2, x3, x4, x5, x6, x7, x8⟩ := id hN)
          | (go_at_call 40; refine (hal _ hS0).mono ?_; rintro e W1 ⟨rfl, hN⟩; obtain ⟨x0, x1, x2, x3, x4, x5, x6, x7, x8⟩ := id hN))
        all_goals (go_ret; exact ⟨rfl, hN.below⟩)
      all_goals
        rw [hq] at hIr
        clear hI hMy hSy hy
        go_enter Try.func9, Try.ntmps9
        go_wp2_with (first
          | (go_at_call 16; (with_reducible refine (hIr _ hN).mono ?_); rintro e W1 ⟨A3, c3, rfl, hl3, hC3, hc3, hN⟩; obtain ⟨x0, x1, x2, x3, x4, x5, x6, x7, x8⟩ := id hN)
          | (go_at_call 20; (with_reducible refine (hM _ hN).mono ?_); rintro e W1 ⟨A2, c2, rfl, hl2, hC2, hc2, hN⟩; obtain ⟨x0, x1, x2, x3, x4, x5, x6, x7, x8⟩ := id hN)
          | (go_at_call 13; (with_reducible refine (hgr _ hN).mono ?_); rintro e W1 ⟨rfl, hN⟩; obtain ⟨x0, x1, x2, x3, x4, x5, x6, x7, x8⟩ := id hN)
          | (go_at_call 13; (with_reducible refine (hgs _ hN).mono ?_); rintro e W1 ⟨rfl, hN⟩; obtain ⟨x0, x1, x2, x3, x4, x5, x6, x7, x8⟩ := id hN)
          | (go_at_call 14; (with_reducible refine (hgt _ hN).mono ?_); rintro e W1 ⟨rfl, hN⟩; obtain ⟨x0, x1, x2, x3, x4, x5, x6, x7, x8⟩ := id hN)
          | (go_at_call 14; (with_reducible refine (hgp _ hN).mono ?_); rintro e W1 ⟨rfl, hN⟩; obtain ⟨x0, x1, x2, x3, x4, x5, x6, x7, x8⟩ := id hN)
          | (go_at_call 40; refine (hal _ hS0).mono ?_; rintro e W1 ⟨rfl, hN⟩; obtain ⟨x0, x1, x2, x3, x4, x5, x6, x7, x8⟩ := id hN))
        all_goals (go_ret; exact ⟨rfl, hN.below.alloc hN.below.size _⟩)
end Go.Proofs.Ytgnklkmifcmlhaa.Q
