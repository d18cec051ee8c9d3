/- Proved here: the contract of types.Inst. Conditions: those that each theorem names. -/
import Derived.Test.YtgnklkmifcmlhaaHOk
import Derived.Test.YtgnklkmifcmlhaaHInst
namespace Go.Proofs.Ytgnklkmifcmlhaa.Q
open Go.RowKit Go.Shelf Go.Proofs.YtgnklkmifcmlhaaW.PrintWords Go.Proofs.YtgnklkmifcmlhaaW.PrintMore
set_option linter.unusedVariables false
set_option linter.unusedSimpArgs false
attribute [local go_sem] Oper.semAt_some

/-! ### What Inst answers -/
/-- A valid type: its variables have no arguments. -/
theorem shB_okT : ∀ (t : S25), shB t = true → okT t := by
  intro t
  induction t using S_ind with
  | _ t ih =>
    intro h
    obtain ⟨v, n, l⟩ := t
    simp only [shB, Bool.and_eq_true] at h
    simp only [okT]
    refine ⟨fun hv => ?_, ?_⟩
    · have h2 := h.1
      unfold headB at h2
      rw [if_pos hv] at h2
      simp only [Bool.and_eq_true, beq_iff_eq] at h2
      exact List.length_eq_zero_iff.1 h2.2.2
    · have : ∀ (m : List S25), (∀ x, x ∈ m → x ∈ l) → shBL m = true → okL m := by
        intro m
        induction m with
        | nil => intro _ _; trivial
        | cons a m ihm =>
          intro hm hs
          simp only [shBL, Bool.and_eq_true] at hs
          exact ⟨ih a (hm a (List.mem_cons_self ..)) hs.1, ihm (fun x hx => hm x (List.mem_cons_of_mem _ hx)) hs.2⟩
      exact this l (fun _ h => h) h.2
theorem growO_append (k : Nat) (s : List S59) : ∀ (l m : List S25) (n : Int), growO k s (l ++ m) n = (growO k s l n).bind fun q => growO k s m q
  | [], m, n => by simp [growO]
  | y :: l, m, n => by
    simp only [List.cons_append, growO]
    cases growStep k s n y with
    | none => rfl
    | some q => simp [growO_append k s l m]
theorem growL_ev (s : List S59) : ∀ (l : List S25) (B : Nat), (∀ x, x ∈ l → ∀ (n : Nat), n + szT (instT s x) ≤ B → Ev (fun k => growO k s (preT x) (n : Int)) ((n + szT (instT s x) : Nat) : Int)) → ∀ n : Nat, n + szL (instL s l) ≤ B → Ev (fun k => growO k s (preL l) (n : Int)) ((n + szL (instL s l) : Nat) : Int)
  | [], B, h, n, hn => (Ev.pure _).val (by simp [instL, szL])
  | a :: l, B, h, n, hn => by
    simp only [instL, szL] at hn ⊢
    simp only [preL, growO_append]
    refine Ev.bind (h a (List.mem_cons_self ..) n (by omega)) ?_
    refine (growL_ev s l B (fun x hx => h x (List.mem_cons_of_mem _ hx)) _ (by omega)).val (by omega)
theorem grow_ev (s : List S59) (hs : ∀ b, b ∈ s → szT b.f1 ≤ 4611686018427387904) (t : S25) : okT t → ∀ n : Nat, n + szT (instT s t) ≤ 4611686018427387904 → Ev (fun k => growO k s (preT t) (n : Int)) ((n + szT (instT s t) : Nat) : Int) := by
  induction t using S_ind with
  | _ t ih =>
    intro hok n hn
    obtain ⟨v, nm, l⟩ := t
    simp only [okT] at hok
    simp only [preT, growO]
    cases v with
    | true =>
      obtain rfl := hok.1 rfl
      simp only [instT, if_true] at hn ⊢
      simp only [preL, growO, growStep, if_true]
      cases hf : s.find? (findP nm) with
      | none =>
        rw [hf] at hn
        dsimp only at hn ⊢
        simp only [szT, szL] at hn ⊢
        refine (Ev.pure _).val ?_
        rw [w64s (by omega)]
      | some b =>
        rw [hf] at hn
        dsimp only at hn ⊢
        have hb := hs b (List.mem_of_find?_eq_some hf)
        refine Ev.bind (Ev.bind (size_ev b.f1 hb) (Ev.pure _)) ((Ev.pure _).val ?_)
        rw [w64 (by omega) (by omega)]
        omega
    | false =>
      simp only [instT, Bool.false_eq_true, if_false, szT] at hn ⊢
      have h1 : ∀ k, growStep k s (n : Int) ⟨false, nm, l⟩ = some ((n + 1 : Nat) : Int) := by
        intro k
        unfold growStep
        rw [← w64s (by omega)]
        cases s.find? (findP nm) <;> simp
      simp only [h1, Option.bind_some]
      refine (growL_ev s l 4611686018427387904 (fun x hx n' hn' => ih x hx (okL_mem l x hok.2 hx) n' hn') (n + 1) (by omega)).val (by omega)

/-- Inst's answer. -/
def instF (s : List S59) (t : S25) : S25 × Int :=
  if (vldB s && chkB t) = true then (if szT (instT s t) ≤ 500 ∧ dpT (instT s t) ≤ 200 then (instT s t, 0) else (z25, 21)) else (z25, 10)
theorem instT_sz (s : List S59) (hs : ∀ b, b ∈ s → szT b.f1 ≤ 500) (t : S25) : szT (instT s t) ≤ 500 * szT t := by
  induction t using S_ind with
  | _ t ih =>
    obtain ⟨v, nm, l⟩ := t
    simp only [instT]
    split
    · split
      · rename_i b hf
        have := hs b (List.mem_of_find?_eq_some hf)
        simp only [szT]
        omega
      · omega
    · have : ∀ (m : List S25), (∀ x, x ∈ m → x ∈ l) → szL (instL s m) ≤ 500 * szL m := by
        intro m
        induction m with
        | nil => intro _; simp [instL, szL]
        | cons a m ihm =>
          intro hm
          simp only [instL, szL]
          have h1 := ih a (hm a (List.mem_cons_self ..))
          have h2 := ihm (fun x hx => hm x (List.mem_cons_of_mem _ hx))
          omega
      have h := this l (fun _ h => h)
      simp only [szT]
      omega

set_option maxHeartbeats 2000000 in
set_option maxRecDepth 100000 in
theorem inst_walk (A0 : Option Addr) (c0 : Nat) (s : List S59) (t : S25) (A : Option Addr) (c : Nat) (w : World) (hs : k59.C w A0 s.length s) (hc0 : s.length ≤ c0)
    (hA : k25.C w A t.f2.length t.f2) (hc : t.f2.length ≤ c) (hfs : ∀ b, b ∈ s → fitB b) (hft : fit t) :
    Calls Try.prog 16 #[.slice A0 s.length c0, .agg #[.bool t.f0, .string t.f1, .slice A t.f2.length c]] w fun e w' => ∃ v, e = .returned (.tuple #[.agg #[.bool (instF s t).1.f0, .string (instF s t).1.f1, v], .int .i64 (instF s t).2]) ∧ WT w' (fun k => w.heap.size ≤ k) v (instF s t).1.f2 ∧ Below w.heap.size w w' := by
  obtain ⟨kv, hkv⟩ := (valid_f_ev s hfs).at
  obtain ⟨kc, hkc⟩ := (check_ev t hft).at
  have h57 := fun W (hw : Below w.heap.size w W) => types_valid.calls kv A0 c0 s _ W (Kd.C_below hs hw) hc0 hkv
  have h28 := fun W (hw : Below w.heap.size w W) => types_Check.calls kc t.f0 t.f1 A c t.f2 _ W (Kd.C_below hA hw) hc hkc
  have hb0 := below_two (w := w) (.cells #[.bool t.f0, .string t.f1, .slice A t.f2.length c] 25) (.cells #[.bool false, .string ⟨#[]⟩, .slice none 0 0] 25)
  have B3 := blk_mid (w := w) (.cells #[.bool t.f0, .string t.f1, .slice A t.f2.length c] 25) (.cells #[.bool false, .string ⟨#[]⟩, .slice none 0 0] 25)
  have B4 := blk_top (w := w) (.cells #[.bool t.f0, .string t.f1, .slice A t.f2.length c] 25) (.cells #[.bool false, .string ⟨#[]⟩, .slice none 0 0] 25)
  unfold instF
  by_cases hok : (vldB s && chkB t) = true
  · rw [if_pos hok]
    rw [Bool.and_eq_true] at hok
    rw [if_pos hok.2] at h28
    rw [hok.1] at h57
    obtain ⟨hsh, hst, hdt⟩ := chkB_sh hok.2
    have hsb : ∀ b, b ∈ s → szT b.f1 ≤ 500 := fun b hb => (chkB_sh (vldB_mem hok.1 hb).2).2.1
    have hsi := instT_sz s hsb t
    have hokt := shB_okT t hsh
    obtain ⟨kg, hkg⟩ := (grow_ev s (fun b hb => Nat.le_trans (hsb b hb) (by omega)) t hokt 0 (by omega)).at
    have hkg : types_grown.f kg s t.f0 t.f1 t.f2 = some ((szT (instT s t) : Nat) : Int) := by
      rw [types_grown.f, show (⟨t.f0, t.f1, t.f2⟩ : S25) = t by cases t; rfl]
      simpa using hkg
    obtain ⟨ks, hks⟩ := (small_ev (instT s t) (by omega)).at
    have h58 := fun W (hw : Below w.heap.size w W) => types_grown.calls kg A0 c0 s t.f0 t.f1 A c t.f2 _ W (Kd.C_below hs hw) hc0 (Kd.C_below hA hw) hc hkg
    have h59 := fun W (hw : Below w.heap.size w W) => inst_calls A0 c0 s hc0 (fun b hb => Nat.le_trans (hsb b hb) (by omega)) (szT t) t A c W (Nat.le_refl _) (by omega) hokt (Kd.C_below hs hw) (Kd.C_below hA hw) hc
    have h60 := fun A' c' W hA' hc' => types_small.calls ks (instT s t).f0 (instT s t).f1 A' c' (instT s t).f2 _ W hA' hc' hks
    clear hs hA hok hkv hkc hkg hks hsb hokt hsh hst hdt hfs hft hsi
    generalize instT s t = r at *
    by_cases hq : szT r ≤ 500
    · have d1 : decide (500 < (szT r : Int)) = false := decide_eq_false (by omega)
      have d1b : decide (500 < szT r) = false := decide_eq_false (by omega)
      by_cases hq2 : dpT r ≤ 200
      · rw [if_pos ⟨hq, hq2⟩]
        rw [decide_eq_true hq, decide_eq_true hq2] at h60
        clear hq hq2
        dsimp only
        go_enter Try.func16, Try.ntmps16
        go_wp2_with (first
          | (go_at_call 57; refine (h57 _ hb0).mono ?_; rintro e W1 ⟨rfl, hc1⟩; have hb1 := below_step hb0 hc1; have B31 := blk_below B3 hc1; have B41 := blk_below B4 hc1; obtain ⟨x0, x1, x2, x3, x4, x5, x6⟩ := box3s B31; obtain ⟨y0, y1, y2, y3, y4, y5, y6⟩ := box3s B41)
          | (go_at_call 28; refine (h28 _ hb1).mono ?_; rintro e W2 ⟨rfl, hc2⟩; have hb2 := below_step hb1 hc2; have B32 := blk_below B31 hc2; have B42 := blk_below B41 hc2; obtain ⟨x0, x1, x2, x3, x4, x5, x6⟩ := box3s B32; obtain ⟨y0, y1, y2, y3, y4, y5, y6⟩ := box3s B42)
          | (go_at_call 58; refine (h58 _ hb2).mono ?_; rintro e W3 ⟨rfl, hc3⟩; have hb3 := below_step hb2 hc3; have B33 := blk_below B32 hc3; have B43 := blk_below B42 hc3; obtain ⟨x0, x1, x2, x3, x4, x5, x6⟩ := box3s B33; obtain ⟨y0, y1, y2, y3, y4, y5, y6⟩ := box3s B43)
          | (go_at_call 59; refine (h59 _ hb3).mono ?_; rintro e W4 ⟨v, rfl, hW, hc4⟩; obtain ⟨A4, c4, hv, hl4, hC4⟩ := hW.reads; subst hv; have hb4 := below_step hb3 hc4; have B34 := blk_below B33 hc4; have B44 := blk_below B43 hc4; obtain ⟨x0, x1, x2, x3, x4, x5, x6⟩ := box3s B34; obtain ⟨y0, y1, y2, y3, y4, y5, y6⟩ := box3s B44)
          | (go_at_call 60; refine (h60 A4 c4 _ (Kd.C_below hC4 (below_one _)) hl4).mono ?_; rintro e W5 ⟨rfl, hc5⟩; have hc5' := below_step (below_one _) hc5; have B45 := blk_below B44 hc5'; have B65 := blk_below (blk_new W4 (.cells #[.bool r.f0, .string r.f1, .slice A4 r.f2.length c4] 25)) hc5; obtain ⟨y0, y1, y2, y3, y4, y5, y6⟩ := box3s B45; obtain ⟨z0, z1, z2, z3, z4, z5, z6⟩ := box3s B65))
        have hs3 := hb3.size
        have hs4 := hc4.size
        refine bodyPost_ret (results_ct rfl _ _ (w.heap.size + 1) 25 #[.bool r.f0, .string r.f1, .slice A4 r.f2.length c4] (0, 0) _ rfl (set3 B45) Try.underlying25 rfl (by kernel_rfl)) rfl ?_
        exact ⟨_, rfl, ((((hW.later hc5').far _ _ (by intro k hk; show k ≠ w.heap.size + 1; omega)).far _ _ (by intro k hk; show k ≠ w.heap.size + 1; omega)).far _ _ (by intro k hk; show k ≠ w.heap.size + 1; omega)).mono (fun k hk => by omega), (((below_step hb4 hc5').setCell (by simp) _).setCell (by simp) _).setCell (by simp) _⟩
      · rw [if_neg (fun h => hq2 h.2)]
        rw [decide_eq_true hq, decide_eq_false hq2] at h60
        clear hq hq2
        dsimp only
        go_enter Try.func16, Try.ntmps16
        go_wp2_with (first
          | (go_at_call 57; refine (h57 _ hb0).mono ?_; rintro e W1 ⟨rfl, hc1⟩; have hb1 := below_step hb0 hc1; have B31 := blk_below B3 hc1; have B41 := blk_below B4 hc1; obtain ⟨x0, x1, x2, x3, x4, x5, x6⟩ := box3s B31; obtain ⟨y0, y1, y2, y3, y4, y5, y6⟩ := box3s B41)
          | (go_at_call 28; refine (h28 _ hb1).mono ?_; rintro e W2 ⟨rfl, hc2⟩; have hb2 := below_step hb1 hc2; have B32 := blk_below B31 hc2; have B42 := blk_below B41 hc2; obtain ⟨x0, x1, x2, x3, x4, x5, x6⟩ := box3s B32; obtain ⟨y0, y1, y2, y3, y4, y5, y6⟩ := box3s B42)
          | (go_at_call 58; refine (h58 _ hb2).mono ?_; rintro e W3 ⟨rfl, hc3⟩; have hb3 := below_step hb2 hc3; have B33 := blk_below B32 hc3; have B43 := blk_below B42 hc3; obtain ⟨x0, x1, x2, x3, x4, x5, x6⟩ := box3s B33; obtain ⟨y0, y1, y2, y3, y4, y5, y6⟩ := box3s B43)
          | (go_at_call 59; refine (h59 _ hb3).mono ?_; rintro e W4 ⟨v, rfl, hW, hc4⟩; obtain ⟨A4, c4, hv, hl4, hC4⟩ := hW.reads; subst hv; have hb4 := below_step hb3 hc4; have B34 := blk_below B33 hc4; have B44 := blk_below B43 hc4; obtain ⟨x0, x1, x2, x3, x4, x5, x6⟩ := box3s B34; obtain ⟨y0, y1, y2, y3, y4, y5, y6⟩ := box3s B44)
          | (go_at_call 60; refine (h60 A4 c4 _ (Kd.C_below hC4 (below_one _)) hl4).mono ?_; rintro e W5 ⟨rfl, hc5⟩; have hc5' := below_step (below_one _) hc5; have B45 := blk_below B44 hc5'; have B65 := blk_below (blk_new W4 (.cells #[.bool r.f0, .string r.f1, .slice A4 r.f2.length c4] 25)) hc5; obtain ⟨y0, y1, y2, y3, y4, y5, y6⟩ := box3s B45; obtain ⟨z0, z1, z2, z3, z4, z5, z6⟩ := box3s B65))
        refine bodyPost_ret (results_ct rfl _ _ (w.heap.size + 1) 25 #[.bool false, .string ⟨#[]⟩, .slice none 0 0] (0, 0) _ rfl (set3 B45) Try.underlying25 rfl (by kernel_rfl)) rfl ?_
        exact ⟨_, rfl, .nil _ _, (((below_step hb4 hc5').setCell (by simp) _).setCell (by simp) _).setCell (by simp) _⟩
    · have d1 : decide (500 < (szT r : Int)) = true := decide_eq_true (by omega)
      have d1b : decide (500 < szT r) = true := decide_eq_true (by omega)
      rw [if_neg (fun h => hq h.1)]
      clear hq h59 h60
      dsimp only
      go_enter Try.func16, Try.ntmps16
      go_wp2_with (first
        | (go_at_call 57; refine (h57 _ hb0).mono ?_; rintro e W1 ⟨rfl, hc1⟩; have hb1 := below_step hb0 hc1; have B31 := blk_below B3 hc1; have B41 := blk_below B4 hc1; obtain ⟨x0, x1, x2, x3, x4, x5, x6⟩ := box3s B31; obtain ⟨y0, y1, y2, y3, y4, y5, y6⟩ := box3s B41)
        | (go_at_call 28; refine (h28 _ hb1).mono ?_; rintro e W2 ⟨rfl, hc2⟩; have hb2 := below_step hb1 hc2; have B32 := blk_below B31 hc2; have B42 := blk_below B41 hc2; obtain ⟨x0, x1, x2, x3, x4, x5, x6⟩ := box3s B32; obtain ⟨y0, y1, y2, y3, y4, y5, y6⟩ := box3s B42)
        | (go_at_call 58; refine (h58 _ hb2).mono ?_; rintro e W3 ⟨rfl, hc3⟩; have hb3 := below_step hb2 hc3; have B33 := blk_below B32 hc3; have B43 := blk_below B42 hc3; obtain ⟨x0, x1, x2, x3, x4, x5, x6⟩ := box3s B33; obtain ⟨y0, y1, y2, y3, y4, y5, y6⟩ := box3s B43))
      refine bodyPost_ret (results_ct rfl _ _ (w.heap.size + 1) 25 #[.bool false, .string ⟨#[]⟩, .slice none 0 0] (0, 0) _ rfl (set3 B43) Try.underlying25 rfl (by kernel_rfl)) rfl ?_
      exact ⟨_, rfl, .nil _ _, ((hb3.setCell (by simp) _).setCell (by simp) _).setCell (by simp) _⟩
  · rw [if_neg hok]
    dsimp only
    cases hv : vldB s with
    | false =>
      rw [hv] at h57
      clear hok hkv hkc hfs hft h28 hs hA
      go_enter Try.func16, Try.ntmps16
      go_wp2_with (first
        | (go_at_call 57; refine (h57 _ hb0).mono ?_; rintro e W1 ⟨rfl, hc1⟩; have hb1 := below_step hb0 hc1; have B31 := blk_below B3 hc1; have B41 := blk_below B4 hc1; obtain ⟨x0, x1, x2, x3, x4, x5, x6⟩ := box3s B31; obtain ⟨y0, y1, y2, y3, y4, y5, y6⟩ := box3s B41))
      refine bodyPost_ret (results_ct rfl _ _ (w.heap.size + 1) 25 #[.bool false, .string ⟨#[]⟩, .slice none 0 0] (0, 0) _ rfl (set3 B41) Try.underlying25 rfl (by kernel_rfl)) rfl ?_
      exact ⟨_, rfl, .nil _ _, ((hb1.setCell (by simp) _).setCell (by simp) _).setCell (by simp) _⟩
    | true =>
      rw [hv, Bool.true_and] at hok
      rw [if_neg hok] at h28
      rw [hv] at h57
      clear hok hkv hkc hfs hft hs hA hv
      go_enter Try.func16, Try.ntmps16
      go_wp2_with (first
        | (go_at_call 57; refine (h57 _ hb0).mono ?_; rintro e W1 ⟨rfl, hc1⟩; have hb1 := below_step hb0 hc1; have B31 := blk_below B3 hc1; have B41 := blk_below B4 hc1; obtain ⟨x0, x1, x2, x3, x4, x5, x6⟩ := box3s B31; obtain ⟨y0, y1, y2, y3, y4, y5, y6⟩ := box3s B41)
        | (go_at_call 28; refine (h28 _ hb1).mono ?_; rintro e W2 ⟨rfl, hc2⟩; have hb2 := below_step hb1 hc2; have B32 := blk_below B31 hc2; have B42 := blk_below B41 hc2; obtain ⟨x0, x1, x2, x3, x4, x5, x6⟩ := box3s B32; obtain ⟨y0, y1, y2, y3, y4, y5, y6⟩ := box3s B42))
      refine bodyPost_ret (results_ct rfl _ _ (w.heap.size + 1) 25 #[.bool false, .string ⟨#[]⟩, .slice none 0 0] (0, 0) _ rfl (set3 B42) Try.underlying25 rfl (by kernel_rfl)) rfl ?_
      exact ⟨_, rfl, .nil _ _, ((hb2.setCell (by simp) _).setCell (by simp) _).setCell (by simp) _⟩
end Go.Proofs.Ytgnklkmifcmlhaa.Q
