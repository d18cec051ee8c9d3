/- Proved here: parts of the proof of a given statement (HRowTypesCompose): contracts of the functions that it reaches, what they answer, and in the last text the statement itself. Conditions: those that each theorem names. -/
import Derived.Test.YtgnklkmifcmlhaaZTcX10
import Derived.Test.YtgnklkmifcmlhaaZTcX7
import Derived.Test.YtgnklkmifcmlhaaZTcX9
import Derived.Test.YtgnklkmifcmlhaaZTcX11
/- Proved here: the walk of the law TypesCompose. Conditions: those that each theorem names. -/
namespace Go.Proofs.Ytgnklkmifcmlhaa.Q
open Go.RowKit Go.Shelf Go.Proofs.YtgnklkmifcmlhaaW.PrintWords Go.Proofs.YtgnklkmifcmlhaaW.PrintMore
set_option linter.unusedVariables false
set_option linter.unusedSimpArgs false
attribute [local go_sem] Oper.semAt_some

abbrev CpS (w : World) (t : S25) (A : Option Addr) (c : Nat) (W : World) : Prop :=
  W.cell? ⟨w.heap.size, 0, none⟩ = some (.bool t.f0) ∧ W.cell? ⟨w.heap.size, 1, none⟩ = some (.string t.f1) ∧ W.cell? ⟨w.heap.size, 2, none⟩ = some (.slice A t.f2.length c) ∧ w.heap.size < W.heap.size ∧ Below w.heap.size w W
theorem CpS.step {w : World} {t : S25} {A : Option Addr} {c : Nat} {W W' : World} (h : CpS w t A c W) (hb : Below W.heap.size W W') : CpS w t A c W' :=
  ⟨pw_cell_below hb h.1, pw_cell_below hb h.2.1, pw_cell_below hb h.2.2.1, Nat.lt_of_lt_of_le h.2.2.2.1 hb.size, below_step h.2.2.2.2 hb⟩
theorem CpS.below {w : World} {t : S25} {A : Option Addr} {c : Nat} {W : World} (h : CpS w t A c W) : Below w.heap.size w W := h.2.2.2.2
theorem fit_zero : fit (⟨false, ⟨#[]⟩, []⟩ : S25) := ⟨by simp [szT, szL], by simp [allT, allL, okS]; decide⟩
theorem instF_fit (s : List S59) (t : S25) : fit (instF s t).1 := by
  by_cases h : (instF s t).2 = 0
  · obtain ⟨_, _, h3, h4⟩ := instF_ok h
    rw [h3]
    exact chkB_fit h4
  · unfold instF at h ⊢
    split
    · rename_i h1
      rw [if_pos h1] at h
      split
      · rename_i h2
        rw [if_pos h2] at h
        exact absurd rfl h
      · exact fit_zero
    · exact fit_zero
theorem instF_qq (s : List S59) (t : S25) : (instF s t).2 = 0 ∨ (instF s t).2 = 10 ∨ (instF s t).2 = 21 := by
  unfold instF
  split
  · split <;> simp
  · simp

def Lock2 (p : Prop) : Prop := p
theorem lock2_ {p : Prop} (h : Lock2 p) : p := h
set_option maxHeartbeats 4000000 in
set_option maxRecDepth 100000 in
theorem law_compose (t : S25) (A : Option Addr) (c : Nat) (s : List S59) (D : Option Addr) (f : Nat) (r : List S59) (E : Option Addr) (g : Nat) (w : World) (hA : k25.C w A t.f2.length t.f2) (hc : t.f2.length ≤ c) (hwt : wd t)
    (hD : k59.C w D s.length s) (hf : s.length ≤ f) (hsl : s.length ≤ 4611686018427387904) (hws : ∀ b, b ∈ s → wdB b) (hE : k59.C w E r.length r) (hg : r.length ≤ g) (hrl : r.length ≤ 4611686018427387904) (hwr : ∀ b, b ∈ r → wdB b) :
    Calls Try.prog 7 #[.agg #[.bool t.f0, .string t.f1, .slice A t.f2.length c], .slice D s.length f, .slice E r.length g] w fun e w' => e = .returned (.bool true) ∧ Below w.heap.size w w' := by
  obtain ⟨k1, h1⟩ := (great_ev t hwt).at
  obtain ⟨k2, h2⟩ := (greats_ev s hws).at
  obtain ⟨k3, h3⟩ := (greats_ev r hwr).at
  have hal := fun W (hw : CpS w t A c W) => (alive_calls W).mono (fun _ _ h => And.intro h.1 (hw.step h.2))
  have hgt := fun W (hw : CpS w t A c W) => (sequentref01_Great.calls k1 t.f0 t.f1 A c t.f2 _ W (Kd.C_below hA hw.below) hc h1).mono (fun _ _ h => And.intro h.1 (hw.step h.2))
  have hgs := fun W (hw : CpS w t A c W) => (sequentref01_GreatBinds.calls k2 D f s _ W (Kd.C_below hD hw.below) hf h2).mono (fun _ _ h => And.intro h.1 (hw.step h.2))
  have hgr := fun W (hw : CpS w t A c W) => (sequentref01_GreatBinds.calls k3 E g r _ W (Kd.C_below hE hw.below) hg h3).mono (fun _ _ h => And.intro h.1 (hw.step h.2))
  have hS0 : CpS w t A c (w.alloc (.cells #[.bool t.f0, .string t.f1, .slice A t.f2.length c] 25)) := by
    obtain ⟨a0, a1, a2, _, _, _, a6⟩ := box3s (blk_new w (.cells #[.bool t.f0, .string t.f1, .slice A t.f2.length c] 25))
    exact ⟨a0, a1, a2, a6, below_one _⟩
  clear h1 h2 h3
  by_cases hany : greatB t = true ∨ (greatS s = true ∨ greatS r = true)
  · have key : ∀ b : Bool, b = true ∨ b = false := fun b => by cases b <;> simp
    clear hA hD hE
    rcases key (greatB t) with e1 | e1 <;> rw [e1] at hgt
    case inl =>
      clear hgs hgr
      go_enter Try.func7, Try.ntmps7
      go_wp2_with (first
        | (go_at_call 14; (with_reducible refine (hgt _ hN).mono ?_); rintro e W1 ⟨rfl, hN⟩; obtain ⟨x0, x1, x2, x3, x4⟩ := id hN)
        | (go_at_call 40; (with_reducible refine (hal _ hS0).mono ?_); rintro e W1 ⟨rfl, hN⟩; obtain ⟨x0, x1, x2, x3, x4⟩ := id hN))
      go_ret
      exact ⟨rfl, hN.below⟩
    rcases key (greatS s) with e2 | e2 <;> rw [e2] at hgs
    case inl =>
      clear hgr
      go_enter Try.func7, Try.ntmps7
      go_wp2_with (first
        | (go_at_call 13; (with_reducible refine (hgs _ hN).mono ?_); rintro e W1 ⟨rfl, hN⟩; obtain ⟨x0, x1, x2, x3, x4⟩ := id hN)
        | (go_at_call 14; (with_reducible refine (hgt _ hN).mono ?_); rintro e W1 ⟨rfl, hN⟩; obtain ⟨x0, x1, x2, x3, x4⟩ := id hN)
        | (go_at_call 40; (with_reducible refine (hal _ hS0).mono ?_); rintro e W1 ⟨rfl, hN⟩; obtain ⟨x0, x1, x2, x3, x4⟩ := id hN))
      go_ret
      exact ⟨rfl, hN.below⟩
    rcases key (greatS r) with e3 | e3 <;> rw [e3] at hgr
    case inl =>
      go_enter Try.func7, Try.ntmps7
      go_wp2_with (first
        | (go_at_call 13; (with_reducible refine (hgr _ hN).mono ?_); rintro e W1 ⟨rfl, hN⟩; obtain ⟨x0, x1, x2, x3, x4⟩ := id hN)
        | (go_at_call 13; (with_reducible refine (hgs _ hN).mono ?_); rintro e W1 ⟨rfl, hN⟩; obtain ⟨x0, x1, x2, x3, x4⟩ := id hN)
        | (go_at_call 14; (with_reducible refine (hgt _ hN).mono ?_); rintro e W1 ⟨rfl, hN⟩; obtain ⟨x0, x1, x2, x3, x4⟩ := id hN)
        | (go_at_call 40; (with_reducible refine (hal _ hS0).mono ?_); rintro e W1 ⟨rfl, hN⟩; obtain ⟨x0, x1, x2, x3, x4⟩ := id hN))
      go_ret
      exact ⟨rfl, hN.below⟩
    exact absurd hany (by rw [e1, e2, e3]; simp)
  · simp only [not_or, Bool.not_eq_true] at hany
    obtain ⟨e1, e2, e3⟩ := hany
    rw [e1] at hgt
    rw [e2] at hgs
    rw [e3] at hgr
    have htt := greatB_sz e1
    have hss := greatS_mem e2
    have hrr := greatS_mem e3
    have hft := fit_of_wd hwt (by omega)
    have hfs : ∀ b, b ∈ s → fitB b := fun b hb => ⟨(hws b hb).1, fit_of_wd (hws b hb).2 (by have := (hss.2 b hb).1; omega)⟩
    have hfr : ∀ b, b ∈ r → fitB b := fun b hb => ⟨(hwr b hb).1, fit_of_wd (hwr b hb).2 (by have := (hrr.2 b hb).1; omega)⟩
    clear e1 e2 e3
    have hI : ∀ (l : List S59), (∀ b, b ∈ l → fitB b) → ∀ (y : S25), fit y → ∀ W A2 c2 A3 c3, CpS w t A c W → k59.C W A2 l.length l → l.length ≤ c2 → k25.C W A3 y.f2.length y.f2 → y.f2.length ≤ c3 →
        Calls Try.prog 16 #[.slice A2 l.length c2, .agg #[.bool y.f0, .string y.f1, .slice A3 y.f2.length c3]] W fun e w' => ∃ A4 c4, e = .returned (.tuple #[.agg #[.bool (instF l y).1.f0, .string (instF l y).1.f1, .slice A4 (instF l y).1.f2.length c4], .int .i64 (instF l y).2]) ∧ (instF l y).1.f2.length ≤ c4 ∧ Kd.F k25 w' (fun k => W.heap.size ≤ k) A4 (instF l y).1.f2.length (instF l y).1.f2 ∧ Below W.heap.size W w' ∧ CpS w t A c w' :=
      fun l hl y hy W A2 c2 A3 c3 hw hC hlc hC3 hl3 => (inst_walk A2 c2 l y A3 c3 W hC hlc hC3 hl3 hl hy).mono (fun _ _ ⟨v, h1, h2, h3⟩ => by obtain ⟨A4, c4, rfl, hl4, hF⟩ := h2.V W.heap.size; exact ⟨A4, c4, h1, hl4, hF, h3, hw.step h3⟩)
    have hI1 := fun W (hw : CpS w t A c W) => hI s hfs t hft W D f A c hw (Kd.C_below hD hw.below) hf (Kd.C_below hA hw.below) hc
    have hI2 := fun W A3 c3 (hw : CpS w t A c W) => hI r hfr (instF s t).1 (instF_fit s t) W E g A3 c3 hw (Kd.C_below hE hw.below) hg
    have hq1 := instF_qq s t
    have hq2 := instF_qq r (instF s t).1
    by_cases hok : (instF s t).2 = 0 ∧ (instF r (instF s t).1).2 = 0
    case neg =>
      have d1 : ((instF s t).2 != 0) = true ∨ (((instF s t).2 != 0) = false ∧ ((instF r (instF s t).1).2 != 0) = true) := by
        rcases hq1 with h | h | h
        · refine .inr ⟨by rw [h]; rfl, ?_⟩
          rcases hq2 with h2 | h2 | h2
          · exact absurd ⟨h, h2⟩ hok
          · rw [h2]; rfl
          · rw [h2]; rfl
        · exact .inl (by rw [h]; rfl)
        · exact .inl (by rw [h]; rfl)
      clear hI hq1 hq2 hok hD hE hA
      generalize (instF r (instF s t).1) = bq at *
      generalize (instF s t) = aq at *
      obtain ⟨a, q⟩ := aq
      obtain ⟨b, q2⟩ := bq
      dsimp only at *
      rcases d1 with d1 | ⟨d1, d2⟩
      all_goals
        go_enter Try.func7, Try.ntmps7
        go_wp2_with (first
          | (go_at_call 16; (with_reducible refine (hI2 _ A3 c3 hN3 hC3 hl3).mono ?_); rintro e W4 ⟨A4, c4, rfl, hl4, hF4, hc4, hN⟩; obtain ⟨x0, x1, x2, x3, x4⟩ := id hN; obtain ⟨y0, y1, y2, _, _, _, y6⟩ := box3s (blk_below BA3 hc4))
          | (go_at_call 16; (with_reducible refine (hI1 _ hN).mono ?_); rintro e W3 ⟨A3, c3, rfl, hl3, hF3, hc3, hN⟩; obtain ⟨x0, x1, x2, x3, x4⟩ := id hN; have hb3 := below_one (w := W3) (.cells #[.bool a.f0, .string a.f1, .slice A3 a.f2.length c3] 25); have hN3 := hN.step hb3; have hC3 := Kd.C_below (Kd.F_now hF3) hb3; have BA3 := blk_new W3 (.cells #[.bool a.f0, .string a.f1, .slice A3 a.f2.length c3] 25))
          | (go_at_call 13; (with_reducible refine (hgr _ hN).mono ?_); rintro e W1 ⟨rfl, hN⟩; obtain ⟨x0, x1, x2, x3, x4⟩ := id hN)
          | (go_at_call 13; (with_reducible refine (hgs _ hN).mono ?_); rintro e W1 ⟨rfl, hN⟩; obtain ⟨x0, x1, x2, x3, x4⟩ := id hN)
          | (go_at_call 14; (with_reducible refine (hgt _ hN).mono ?_); rintro e W1 ⟨rfl, hN⟩; obtain ⟨x0, x1, x2, x3, x4⟩ := id hN)
          | (go_at_call 40; (with_reducible refine (hal _ hS0).mono ?_); rintro e W1 ⟨rfl, hN⟩; obtain ⟨x0, x1, x2, x3, x4⟩ := id hN))
        go_ret
        exact ⟨rfl, hN.below.alloc hN.below.size _⟩
    case pos =>
      have hcomp := fun h3 => compose (t := t) (s := s) (r := r) hok.1 hok.2 h3
      rw [hok.1] at hI1
      rw [hok.2] at hI2
      have HD := Aside0.mk hD
      have HE := Aside0.mk hE
      have HA := Aside0.mk hA
      have HCO := Aside0.mk hcomp
      clear hq1 hq2 hok hD hE hA hcomp
      go_enter Try.func7, Try.ntmps7
      go_wp2_with (first
        | (go_at_call 16; (with_reducible refine (hI2 _ A3 c3 hN3 hC3 hl3).mono ?_); rintro e W4 ⟨A4, c4, rfl, hl4, hF4, hc4, hN⟩; obtain ⟨x0, x1, x2, x3, x4⟩ := id hN; obtain ⟨y0, y1, y2, _, _, _, y6⟩ := box3s (blk_below BA3 hc4))
        | (go_at_call 16; (with_reducible refine (hI1 _ hN).mono ?_); rintro e W3 ⟨A3, c3, rfl, hl3, hF3, hc3, hN⟩; obtain ⟨x0, x1, x2, x3, x4⟩ := id hN; have hb3 := below_one (w := W3) (.cells #[.bool (instF s t).1.f0, .string (instF s t).1.f1, .slice A3 (instF s t).1.f2.length c3] 25); have hN3 := hN.step hb3; have hC3 := Kd.C_below (Kd.F_now hF3) hb3; have BA3 := blk_new W3 (.cells #[.bool (instF s t).1.f0, .string (instF s t).1.f1, .slice A3 (instF s t).1.f2.length c3] 25))
        | (go_at_call 13; (with_reducible refine (hgr _ hN).mono ?_); rintro e W1 ⟨rfl, hN⟩; obtain ⟨x0, x1, x2, x3, x4⟩ := id hN)
        | (go_at_call 13; (with_reducible refine (hgs _ hN).mono ?_); rintro e W1 ⟨rfl, hN⟩; obtain ⟨x0, x1, x2, x3, x4⟩ := id hN)
        | (go_at_call 14; (with_reducible refine (hgt _ hN).mono ?_); rintro e W1 ⟨rfl, hN⟩; obtain ⟨x0, x1, x2, x3, x4⟩ := id hN)
        | (go_at_call 40; (with_reducible refine (hal _ hS0).mono ?_); rintro e W1 ⟨rfl, hN⟩; obtain ⟨x0, x1, x2, x3, x4⟩ := id hN))
      have hB4 := below_one (w := W4) (.cells #[.bool (instF r (instF s t).1).1.f0, .string (instF r (instF s t).1).1.f1, .slice A4 (instF r (instF s t).1).1.f2.length c4] 25)
      have BB5 := blk_new W4 (.cells #[.bool (instF r (instF s t).1).1.f0, .string (instF r (instF s t).1).1.f1, .slice A4 (instF r (instF s t).1).1.f2.length c4] 25)
      obtain ⟨W5, hW5⟩ : ∃ W5, W4.alloc (.cells #[.bool (instF r (instF s t).1).1.f0, .string (instF r (instF s t).1).1.f1, .slice A4 (instF r (instF s t).1).1.f2.length c4] 25) = W5 := ⟨_, rfl⟩
      rw [hW5] at hB4 BB5
      rw [hW5]
      have hN5 : CpS w t A c W5 := hN.step hB4
      have hC5 := Kd.C_below (Kd.F_now hF4) hB4
      clear hW5 hN hN3 hC3 BA3 hb3 hF3 hF4 hc3 hc4 x0 x1 x2 x3 x4 y0 y1 y2 y6 hI1 hI2 hal hgt hgs hgr hS0 hB4
      go_loopg [12, 13] s.length (fun gg v12 v13 wr => ∃ kk : Nat, kk ≤ s.length ∧ gg + kk = s.length ∧ v13 = .int .i64 (kk : Int) ∧ Aside0 (Kd.N k59 59 wr W5.heap.size (fun _ => True) v12 ((s.take kk).map (mapB r))) ∧ Aside0 (Below W5.heap.size W5 wr) ∧ Aside0 (∀ (j : Nat) (hj : j < s.length), j < kk → (instF r (s[j]).f1).2 = 0))
      case atStart => exact ⟨0, by omega, by omega, rfl, ⟨Kd.N_nil _ _ _ _ _⟩, ⟨Below.refl _ _⟩, ⟨fun j _ h => by omega⟩⟩
      case round =>
        obtain ⟨kk, hk1, hk2, rfl, HN, HBW, HQ⟩ := hrel
        have hNr := hN5.step HBW.out
        by_cases hkk : kk < s.length
        · have q0 : decide (kk < s.length) = true := decide_eq_true hkk
          obtain ⟨ad, A6, c6, rfl, e0, e1, e2, e3, hl6, hC6⟩ := at_T59 HD.out (kk : Int) (by omega) (by omega)
          simp only [Int.toNat_natCast] at e0 e1 e2 e3
          rw [rdB s kk hkk] at e0 e1 e2 e3 hl6 hC6
          replace e0 := pw_cell_below hNr.below e0
          replace e1 := pw_cell_below hNr.below e1
          replace e2 := pw_cell_below hNr.below e2
          replace e3 := pw_cell_below hNr.below e3
          have hX := hI r hfr s[kk].f1 (hfs _ (List.getElem_mem hkk)).2 wr E g A6 c6 hNr (Kd.C_below HE.out hNr.below) hg (Kd.C_below hC6 hNr.below) hl6
          obtain ⟨x0, x1, x2, x3, x4⟩ := id hNr
          by_cases hq : (instF r s[kk].f1).2 = 0
          · rw [hq] at hX
            have hms : (s.take (kk + 1)).map (mapB r) = (s.take kk).map (mapB r) ++ [⟨s[kk].f0, (instF r s[kk].f1).1⟩] := by
              rw [List.take_succ_eq_append_getElem hkk, List.map_append]
              rfl
            have hyl : ((s.take kk).map (mapB r)).length = kk := by rw [List.length_map, List.length_take]; omega
            have HQ2 : Aside0 (∀ (j : Nat) (hj : j < s.length), j < kk + 1 → (instF r (s[j]).f1).2 = 0) := ⟨fun j hj h => by
              by_cases h2 : j = kk
              · subst h2; exact hq
              · exact HQ.out j hj (by omega)⟩
            have HMS := Lib.hid hms
            clear hms hq HQ hC6 hl6 hI hfs hfr
            generalize (instF r s[kk].f1).1 = u at *
            generalize s[kk] = x at *
            generalize (s.take kk).map (mapB r) = ys at *
            have HYL := Lib.hid hyl
            clear hyl
            obtain ⟨RA, rc, rfl⟩ := Kd.N_slice HN.out
            go_wp2_with (go_at_call 16; (with_reducible refine hX.mono ?_); rintro e w1 ⟨A7, c7, rfl, hl7, hF7, hc7, hN7⟩; obtain ⟨x0, x1, x2, x3, x4⟩ := id hN7; have e0' := pw_cell_below hc7 e0)
            have hbx := below_one (w := w1) (.cells #[.bool u.f0, .string u.f1, .slice A7 u.f2.length c7] 25)
            have BX6 := blk_new w1 (.cells #[.bool u.f0, .string u.f1, .slice A7 u.f2.length c7] 25)
            have hb16 := below_step hc7 hbx
            have hF6 := Kd.F_below hF7 hbx
            have e06 := pw_cell_below hbx e0'
            have hN6 := Kd.N_below HN.out hb16
            have hs1 := hc7.size
            have hs2 := HBW.out.size
            obtain ⟨W6, hW6⟩ : ∃ W6, w1.alloc (.cells #[.bool u.f0, .string u.f1, .slice A7 u.f2.length c7] 25) = W6 := ⟨_, rfl⟩
            rw [hW6] at hbx BX6 hb16 hF6 e06 hN6
            rw [hW6]
            have hB6 := below_step HBW.out hb16
            have hs3 := hb16.size
            have hs4 : W5.heap.size ≤ W6.drew.heap.size := by have := hb16.size; simp; omega
            have HN0 := Aside0.mk HN.out
            clear hW6 e0 e1 e2 e3 e0' hF7 hX hbx HN
            obtain ⟨n0, n1, n2, _, _, _, n6⟩ := box3s BX6
            have HN6 := Aside0.mk hN6
            have HF6 := Aside0.mk hF6
            have HB6 := Aside0.mk hB6
            clear hN6 hF6 hB6
            go_region_law (refine Kd.N_append_step k59 (w0 := W5) (W := W6.drew) W5.heap.size (by rfl) (.tmp 72) (.tmp 80) 22 59 (.agg #[(.string ⟨#[]⟩), (.bool false), (.string ⟨#[]⟩), (.slice none 0 0)]) 64 rfl Try.underlying22 info59 rfl (by decide) (by decide) (.slice RA ys.length rc) ys (⟨x.f0, u⟩ : S59) [.string x.f0, .bool u.f0, .string u.f1, .slice A7 u.f2.length c7] (fun _ => True) (fun k => wr.heap.size ≤ k) rfl rfl ?aP ?aK (fun _ _ => trivial) ?aO ?aB ?aS ?aL ?_; (case aP => exact k59_mkF _ _ _ hl7 (Kd.F_below HF6.out (below_drew1 (Below.refl _ _)))); (case aK => intro k hk; exact ⟨trivial, fun he => by have := Kd.N_lt HN0.out k he.symm; omega⟩); (case aO => exact Kd.N_drew HN6.out); (case aB => exact below_drew1 HB6.out); (case aS => exact hs4); (case aL => have := HYL.out; omega); intro v3 w3 hN3 hB3 hg3 hat3)
            all_goals (have HRN : Aside0 (Kd.N k59 59 w3 W5.heap.size (fun _ => True) v3 ((s.take (kk + 1)).map (mapB r))) := ⟨by rw [HMS.out]; exact hN3⟩)
            all_goals (have HBN := Aside0.mk hB3; clear hN3 hB3 hg3 hat3 HN6 HF6 HB6 HN0 n0 n1 n2 n6)
            all_goals go_wp2
            all_goals (go_roundg (s.length - kk - 1))
            all_goals (first | omega | exact ⟨kk + 1, by omega, by omega, by simp <;> (unfold wrap64; omega), HRN, HBN, HQ2⟩)
          · have hq3 : ((instF r s[kk].f1).2 != 0) = true := by
              rcases instF_qq r s[kk].f1 with h | h | h
              · exact absurd h hq
              · rw [h]; rfl
              · rw [h]; rfl
            clear hq HQ hC6 hl6 hI hfs hfr HCO
            generalize (instF r s[kk].f1) = uq at *
            obtain ⟨u, q⟩ := uq
            dsimp only at *
            generalize s[kk] = x at *
            obtain ⟨RA, rc, rfl⟩ := Kd.N_slice HN.out
            go_wp2_with (go_at_call 16; (with_reducible refine hX.mono ?_); rintro e w1 ⟨A7, c7, rfl, hl7, hF7, hc7, hN7⟩; obtain ⟨x0, x1, x2, x3, x4⟩ := id hN7)
            go_ret
            exact ⟨rfl, hN7.below.alloc hN7.below.size _⟩
        · have q0 : decide (kk < s.length) = false := decide_eq_false hkk
          obtain rfl : kk = s.length := by omega
          have hN := HN.out
          rw [List.take_length] at hN
          obtain ⟨hcm, hvb⟩ := HCO.out (fun b hb => by obtain ⟨j, hj, he⟩ := List.mem_iff_getElem.1 hb; rw [← he]; exact HQ.out j hj hj)
          have hyl : (s.map (mapB r)).length ≤ 100 := by rw [List.length_map]; omega
          have hIb := hI (s.map (mapB r) ++ r) (vldB_fit hvb) t hft
          rw [hcm] at hIb
          obtain ⟨x0, x1, x2, x3, x4⟩ := id hNr
          clear HCO HQ HN hcm hvb hI hfs hfr
          generalize s.map (mapB r) = ys at *
          have hSy : ∀ W A2 c2 A3 c3, k25.C W A2 (instF r (instF s t).1).1.f2.length (instF r (instF s t).1).1.f2 → (instF r (instF s t).1).1.f2.length ≤ c2 → k25.C W A3 (instF r (instF s t).1).1.f2.length (instF r (instF s t).1).1.f2 → (instF r (instF s t).1).1.f2.length ≤ c3 → Calls Try.prog 35 #[.agg #[.bool (instF r (instF s t).1).1.f0, .string (instF r (instF s t).1).1.f1, .slice A2 (instF r (instF s t).1).1.f2.length c2], .agg #[.bool (instF r (instF s t).1).1.f0, .string (instF r (instF s t).1).1.f1, .slice A3 (instF r (instF s t).1).1.f2.length c3]] W fun e w' => e = .returned (.bool true) ∧ Below W.heap.size W w' := fun W A2 c2 A3 c3 hC hl hC' hl' => by
            have h := same_calls (instF r (instF s t).1).1 (instF r (instF s t).1).1 A2 c2 A3 c3 W hC hl hC' hl'
            rw [cmpT_self] at h
            exact h
          obtain ⟨RA, rc, rfl⟩ := Kd.N_slice hN
          go_wp2_with ((with_reducible refine gate_dst (N := 84) rfl ?_); refine lock2_ ?_)
          unfold Lock2
          refine Kd.N_append_rows k59 (w0 := W5) W5.heap.size (by rfl) (.tmp 82) (.tmp 83) 22 59 (.agg #[(.string ⟨#[]⟩), (.bool false), (.string ⟨#[]⟩), (.slice none 0 0)]) 64 (by rfl) Try.underlying22 info59 (by rfl) (by decide) (by decide) (.slice RA ys.length rc) ys r E r.length g (fun _ => True) (fun k => k < W5.heap.size) (by rfl) (by rfl) hN (Kd.F_below (Kd.C_F k59_heap (Kd.C_below HE.out hN5.below)) HBW.out) (fun k hk => ⟨trivial, fun he => by have := Kd.N_base hN k he.symm; omega⟩) (fun _ _ => trivial) HBW.out HBW.out.size (by omega) ?_
          intro v8 W8 hN8 hB8 hg8 hat8
          have hV8 : Kd.V k59 59 W8 0 (fun _ => True) v8 (ys ++ r) := Kd.N_V hN8
          obtain ⟨A8, c8, rfl⟩ := Kd.V_slice hV8
          obtain ⟨_, hl8, hC8⟩ := Kd.V_reads' hV8
          have hS8 := hN5.step hB8
          have BB8 := blk_below BB5 hB8
          have hC58 := Kd.C_below hC5 hB8
          have hI8 := hIb W8 A8 c8 A c hS8 hC8 hl8 (Kd.C_below HA.out hS8.below) hc
          rw [List.length_append] at hI8
          clear hN8 hV8 hg8 hat8 hN hIb hC8 x0 x1 x2 x3 x4 BB5 hC5 HBW hNr
          obtain ⟨x0, x1, x2, x3, x4⟩ := id hS8
          obtain ⟨y0, y1, y2, _, _, _, y6⟩ := box3s BB8
          generalize (instF r (instF s t).1).1 = b at *
          go_wp2_with (first
            | (go_at_call 35; (with_reducible refine (hSy _ A4 c4 A9 c9 (Kd.C_below (Kd.C_below hC58 hc9) (below_one _)) hl4 (Kd.C_below (Kd.F_now hF9) (below_one _)) hl9).mono ?_); rintro e w2 ⟨rfl, hcs⟩)
            | (go_at_call 16; (with_reducible refine hI8.mono ?_); rintro e w1 ⟨A9, c9, rfl, hl9, hF9, hc9, hN9⟩; obtain ⟨x0, x1, x2, x3, x4⟩ := id hN9; obtain ⟨y0, y1, y2, _, _, _, y6⟩ := box3s (blk_below BB8 hc9)))
          go_ret
          exact ⟨rfl, below_step (below_step hN9.below (below_one _)) hcs⟩
end Go.Proofs.Ytgnklkmifcmlhaa.Q
