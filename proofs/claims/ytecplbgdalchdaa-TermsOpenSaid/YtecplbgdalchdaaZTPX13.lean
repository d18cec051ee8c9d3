/- Proved here: parts of the proof of a given statement (HRowTermsOpen): contracts of the functions that it reaches, what they answer, and in the last text the statement itself. Conditions: those that each theorem names. -/
import Derived.Test.YtecplbgdalchdaaZTPX11
import Derived.Test.YtecplbgdalchdaaZTPX12
/- Proved here: the contracts of terms.typed, Check and TypeOf. Conditions: those that each theorem names. -/
namespace Go.Proofs.Ytecplbgdalchdaa.Q
open Go.RowKit Go.Shelf Go.Proofs.YtecplbgdalchdaaW.PrintWords Go.Proofs.YtecplbgdalchdaaW.PrintMore
set_option linter.unusedVariables false
set_option linter.unusedSimpArgs false
attribute [local go_sem] Oper.semAt_some

theorem extent_ev (t : S27) : szM t ≤ 4611686018427387904 → Ev (fun k => terms_extent.f k t.f0 t.f1 t.f2.f0 t.f2.f1 t.f2.f2 t.f3 t.f4) ((szM t : Int), (dpM t : Int)) := by
  induction t using M_ind with
  | _ t ih =>
  intro hb
  have hd := dpM_le t
  rw [szM_eq] at hb hd
  rw [dpM_eq] at hd
  rw [szM_eq, dpM_eq]
  refine Ev.succ ?_
  simp only [terms_extent.f]
  have hl := szML_len t.f4
  refine Ev.cong (down (fun j => Ev (fun k => terms_extent.l0 k ((1 + szML (t.f4.take j) : Nat) : Int) ((dpML (t.f4.take j) : Nat) : Int) t.f4 (t.f4.length : Int) (j : Int)) (((szML t.f4 + 1 : Nat) : Int), ((dpML t.f4 + 1 : Nat) : Int))) t.f4.length ?_ ?_) (fun k => by simp [szML, dpML])
  · refine Ev.succ ?_
    simp only [terms_extent.l0, List.take_length]
    refine Ev.neg (by omega) ((Ev.pure _).val ?_)
    rw [w64 (by omega) (by omega)]
    ext <;> simp <;> omega
  · intro j hj h
    refine Ev.succ ?_
    have hle := szML_le t.f4 j hj
    simp only [terms_extent.l0]
    refine Ev.pos (by omega) (Ev.pos (by omega) (Ev.pos (by omega) ?_))
    rw [rdM t.f4 j hj]
    refine Ev.bind (ih _ (List.getElem_mem hj) (by omega)) ?_
    rw [w64s (by omega), w64 (by omega) (by omega), mx_nat]
    rw [szML_take t.f4 j hj, dpML_take t.f4 j hj] at h
    exact h.cong (fun k => by congr 1; omega)
theorem greatM_ev (t : S27) (h : szM t ≤ 4611686018427387904) : Ev (fun k => terms_great.f k t.f0 t.f1 t.f2.f0 t.f2.f1 t.f2.f2 t.f3 t.f4) (bigM t) := by
  simp only [terms_great.f]
  refine Ev.bind (extent_ev t h) (Ev.ite (fun e => (Ev.pure _).val ?_) (fun e => (Ev.pure _).val ?_))
  · unfold bigM
    rw [decide_eq_true (show 32000 < szM t by simp at e; omega)]
    rfl
  · unfold bigM
    rw [decide_eq_false (show ¬ 32000 < szM t by simp at e; omega), Bool.false_or]
    exact decide_eq_decide.2 (Iff.intro (fun h => by simp at h; omega) (fun h => by simp; omega))
def TypPost (w : World) (ok : Nat → Prop) (t : S27) (e : Ending) (w' : World) : Prop := ∃ r, e = .returned (.tuple #[r, .int .i64 (chkM t)]) ∧ TrF w' (fun k => ok k ∨ w.heap.size ≤ k) r (tyoM t).1 ∧ Below w.heap.size w w'
set_option maxHeartbeats 4000000 in
set_option maxRecDepth 100000 in
theorem typed_calls (t : S27) (hf : fitM t) (A : Option Addr) (c : Nat) (B : Option Addr) (d : Nat) (w : World) (ok : Nat → Prop) (hok : ∀ k, ok k → k < w.heap.size) (hX : RdF w ok t A c B d) :
    Calls Try.prog 98 #[.agg #[.int .u8 t.f0, .string t.f1, .bool t.f2.f0, .string t.f2.f1, .slice A t.f2.f2.length c, .int .i64 t.f3, .slice B t.f4.length d]] w (TypPost w ok t) := by
  have hS0 := FmS.start w t A c B d
  have BR := (two_new w (.cells #[.int .u8 t.f0, .string t.f1, .bool t.f2.f0, .string t.f2.f1, .slice A t.f2.f2.length c, .int .i64 t.f3, .slice B t.f4.length d] 27) (.cells #[.bool false, .string ⟨#[]⟩, .slice none 0 0] 24)).2.2
  obtain ⟨kg, hkg⟩ := (greatM_ev t (by have := hf.2; omega)).at
  have hgr := fun W (hw : Below w.heap.size w W) => terms_great.calls kg t.f0 t.f1 t.f2.f0 t.f2.f1 A c t.f2.f2 t.f3 B d t.f4 _ W (hX.at hw).1.1 hX.1.2 (hX.at hw).2.1 hX.2.2 hkg
  have hdp := dpM_le t
  have hfo := fun W (hw : Below w.heap.size w W) => formed_calls _ t [] ok A c B d none 0 W (Nat.le_refl _) hf (by have := hf.2; simp; omega) (fun y hy => by cases hy) (fun k hk => Nat.lt_of_lt_of_le (hok k hk) hw.size) (hX.later hw) (nilF _ _ _) (Nat.le_refl _)
  obtain ⟨x0, x1, x2, x3, x4, x5, x6, _, hb⟩ := id hS0
  clear hkg hf hX hdp
  rcases chkM_cases t with ⟨h1, h2⟩ | ⟨h1, h2, h3⟩ | ⟨h1, h2, h3⟩
  · rw [h1] at hgr
    have HC := Aside0.mk h2
    have HT := Aside0.mk (show (tyoM t).1 = zT by unfold tyoM; rw [h2]; rfl)
    clear h1 h2 hfo
    go_enter Try.func98, Try.ntmps98
    go_wp2_with (first
      | (go_at_call 108; (with_reducible refine (hgr _ hS0.below).mono ?_); rintro e w3 ⟨rfl, hb3⟩; have hN := hS0.step hb3; have BR3 := blk_below BR hb3; obtain ⟨x0, x1, x2, x3, x4, x5, x6, _, hb⟩ := id hN; obtain ⟨s0, s1, s2, s3, s4, s5, s6⟩ := box3s BR3))
    refine bodyPost_ret (results_ct rfl _ _ (w.heap.size + 1) 24 #[.bool false, .string ⟨#[]⟩, .slice none 0 0] (0, 0) _ rfl (set3 BR3) Try.underlying24 rfl (by kernel_rfl)) rfl ?_
    exact ⟨_, by rw [HC.out]; rfl, by rw [HT.out]; exact TrF.leaf _ _ _ _, ((hb.setCell (by simp) _).setCell (by simp) _).setCell (by simp) _⟩
  · rw [h1] at hgr
    have HC := Aside0.mk h3
    have HT := Aside0.mk (show (tyoM t).1 = typM t by unfold tyoM; rw [h3]; rfl)
    obtain ⟨v, hv⟩ := Option.isSome_iff_exists.1 h2
    have HV := Aside0.mk (show typM t = v by unfold typM; rw [hv]; rfl)
    rw [show ([] : List S24).reverse = [] from rfl, hv] at hfo
    clear h1 h2 h3 hv
    go_enter Try.func98, Try.ntmps98
    go_wp2_with (first
      | (go_at_call 168; refine (hfo _ hN.below).mono ?_; rintro e w4 ⟨r5, u, rfl, hT5, hu5, hb4⟩; obtain ⟨A5, c5, hr5, l5, F5⟩ := hT5; subst hr5; (first | (have hu' := hu5 _ rfl; subst hu'; clear hu5) | clear hu5); have hb4' := below_step hb4 (below_one (w := w4) (.cells #[.bool u.f0, .string u.f1, .slice A5 u.f2.length c5] 24)); have BU := blk_new w4 (.cells #[.bool u.f0, .string u.f1, .slice A5 u.f2.length c5] 24); have hN4 := hN.step hb4'; have BR4 := blk_below BR3 hb4'; obtain ⟨x0, x1, x2, x3, x4, x5, x6, _, hb⟩ := id hN4; obtain ⟨s0, s1, s2, s3, s4, s5, s6⟩ := box3s BR4; obtain ⟨t0, t1, t2, t3, t4, t5, t6⟩ := box3s BU)
      | (go_at_call 108; (with_reducible refine (hgr _ hS0.below).mono ?_); rintro e w3 ⟨rfl, hb3⟩; have hN := hS0.step hb3; have BR3 := blk_below BR hb3; obtain ⟨x0, x1, x2, x3, x4, x5, x6, _, hb⟩ := id hN; obtain ⟨s0, s1, s2, s3, s4, s5, s6⟩ := box3s BR3))
    refine bodyPost_ret (results_ct rfl _ _ (w.heap.size + 1) 24 #[.bool u.f0, .string u.f1, .slice A5 u.f2.length c5] (0, 0) _ rfl (set3 BR4) Try.underlying24 rfl (by kernel_rfl)) rfl ?_
    have hlt := blk_lt BR3
    have hz3 := hN.below.size
    have hne : ∀ k, (ok k ∨ w3.heap.size ≤ k) → k ≠ w.heap.size + 1 := fun k hk => hk.elim (fun h => by have := hok k h; omega) (fun h => by omega)
    refine ⟨_, by rw [HC.out]; rfl, ?_, ((hb.setCell (by simp) _).setCell (by simp) _).setCell (by simp) _⟩
    rw [HT.out, HV.out]
    refine ⟨A5, c5, rfl, l5, Kd.F_mono (Kd.F_step F5 (fun k hk hlt2 => ?_)) (fun k hk => hk.imp id (fun h => by omega))⟩
    rw [Below.heap_setCell _ _ _ k (hne k hk), Below.heap_setCell _ _ _ k (hne k hk), Below.heap_setCell _ _ _ k (hne k hk)]
    exact (below_one (w := w4) _).block k hlt2
  · rw [h1] at hgr
    have HC := Aside0.mk h3
    have HT := Aside0.mk (show (tyoM t).1 = zT by unfold tyoM; rw [h3]; rfl)
    have hn : formM t [] = none := by
      cases hq : formM t [] with
      | none => rfl
      | some v => rw [hq] at h2; cases h2
    rw [show ([] : List S24).reverse = [] from rfl, hn] at hfo
    clear h1 h2 h3 hn
    go_enter Try.func98, Try.ntmps98
    go_wp2_with (first
      | (go_at_call 168; refine (hfo _ hN.below).mono ?_; rintro e w4 ⟨r5, u, rfl, hT5, hu5, hb4⟩; obtain ⟨A5, c5, hr5, l5, F5⟩ := hT5; subst hr5; (first | (have hu' := hu5 _ rfl; subst hu'; clear hu5) | clear hu5); have hb4' := below_step hb4 (below_one (w := w4) (.cells #[.bool u.f0, .string u.f1, .slice A5 u.f2.length c5] 24)); have BU := blk_new w4 (.cells #[.bool u.f0, .string u.f1, .slice A5 u.f2.length c5] 24); have hN4 := hN.step hb4'; have BR4 := blk_below BR3 hb4'; obtain ⟨x0, x1, x2, x3, x4, x5, x6, _, hb⟩ := id hN4; obtain ⟨s0, s1, s2, s3, s4, s5, s6⟩ := box3s BR4; obtain ⟨t0, t1, t2, t3, t4, t5, t6⟩ := box3s BU)
      | (go_at_call 108; (with_reducible refine (hgr _ hS0.below).mono ?_); rintro e w3 ⟨rfl, hb3⟩; have hN := hS0.step hb3; have BR3 := blk_below BR hb3; obtain ⟨x0, x1, x2, x3, x4, x5, x6, _, hb⟩ := id hN; obtain ⟨s0, s1, s2, s3, s4, s5, s6⟩ := box3s BR3))
    refine bodyPost_ret (results_ct rfl _ _ (w.heap.size + 1) 24 #[.bool false, .string ⟨#[]⟩, .slice none 0 0] (0, 0) _ rfl (set3 BR4) Try.underlying24 rfl (by kernel_rfl)) rfl ?_
    exact ⟨_, by rw [HC.out]; rfl, by rw [HT.out]; exact TrF.leaf _ _ _ _, ((hb.setCell (by simp) _).setCell (by simp) _).setCell (by simp) _⟩
set_option maxHeartbeats 2000000 in
set_option maxRecDepth 100000 in
theorem chkM_calls (t : S27) (hf : fitM t) (A : Option Addr) (c : Nat) (B : Option Addr) (d : Nat) (w : World) (hX : RdM w t A c B d) :
    Calls Try.prog 29 #[.agg #[.int .u8 t.f0, .string t.f1, .bool t.f2.f0, .string t.f2.f1, .slice A t.f2.f2.length c, .int .i64 t.f3, .slice B t.f4.length d]] w fun e w' => e = .returned (.int .i64 (chkM t)) ∧ Below w.heap.size w w' := by
  have hXF : RdF w (fun k => k < w.heap.size) t A c B d := ⟨⟨Kd.C_F k24_heap hX.1.1, hX.1.2⟩, Kd.C_F k27_heap hX.2.1, hX.2.2⟩
  have hb0 := below_one (w := w) (.cells #[.int .u8 t.f0, .string t.f1, .bool t.f2.f0, .string t.f2.f1, .slice A t.f2.f2.length c, .int .i64 t.f3, .slice B t.f4.length d] 27)
  have hty := typed_calls t hf A c B d (w.alloc (.cells #[.int .u8 t.f0, .string t.f1, .bool t.f2.f0, .string t.f2.f1, .slice A t.f2.f2.length c, .int .i64 t.f3, .slice B t.f4.length d] 27)) (fun k => k < w.heap.size) (fun k hk => by simp; omega) (hXF.later hb0)
  obtain ⟨x0, x1, x2, x3, x4, x5, x6⟩ := box7 (blk_new w (.cells #[.int .u8 t.f0, .string t.f1, .bool t.f2.f0, .string t.f2.f1, .slice A t.f2.f2.length c, .int .i64 t.f3, .slice B t.f4.length d] 27))
  clear hX hXF
  go_enter Try.func29, Try.ntmps29
  go_wp2_with (go_at_call 98; (with_reducible refine hty.mono ?_); rintro e w3 ⟨r, rfl, hT, hb3⟩; obtain ⟨A5, c5, hr5, l5, F5⟩ := hT; subst hr5)
  go_ret
  exact ⟨rfl, below_step (below_step hb0 hb3) (below_one _)⟩
end Go.Proofs.Ytecplbgdalchdaa.Q
/- Proved here: the contract of terms.TypeOf. Conditions: those that each theorem names. -/
namespace Go.Proofs.Ytecplbgdalchdaa.Q
open Go.RowKit Go.Shelf Go.Proofs.YtecplbgdalchdaaW.PrintWords Go.Proofs.YtecplbgdalchdaaW.PrintMore
set_option linter.unusedVariables false
set_option linter.unusedSimpArgs false
attribute [local go_sem] Oper.semAt_some

theorem tyoM_sz (t : S27) : szT (tyoM t).1 ≤ 500 := by
  unfold tyoM
  split
  · rename_i h
    exact (chkB_sh (typM_chk h)).2.1
  · simp [zT, szT, szL]
set_option maxHeartbeats 4000000 in
set_option maxRecDepth 100000 in
theorem tyoM_calls (t : S27) (hf : fitM t) (A : Option Addr) (c : Nat) (B : Option Addr) (d : Nat) (w : World) (hX : RdM w t A c B d) :
    Calls Try.prog 20 #[.agg #[.int .u8 t.f0, .string t.f1, .bool t.f2.f0, .string t.f2.f1, .slice A t.f2.f2.length c, .int .i64 t.f3, .slice B t.f4.length d]] w fun e w' => ∃ r, e = .returned (.tuple #[r, .int .i64 (chkM t)]) ∧ Tr w' r (tyoM t).1 ∧ Below w.heap.size w w' := by
  have hXF : RdF w (fun k => k < w.heap.size) t A c B d := ⟨⟨Kd.C_F k24_heap hX.1.1, hX.1.2⟩, Kd.C_F k27_heap hX.2.1, hX.2.2⟩
  have hS0 := FmS.start w t A c B d
  have BR := (two_new w (.cells #[.int .u8 t.f0, .string t.f1, .bool t.f2.f0, .string t.f2.f1, .slice A t.f2.f2.length c, .int .i64 t.f3, .slice B t.f4.length d] 27) (.cells #[.bool false, .string ⟨#[]⟩, .slice none 0 0] 24)).2.2
  have hty := typed_calls t hf A c B d _ (fun k => k < w.heap.size) (fun k hk => Nat.lt_of_lt_of_le hk hS0.below.size) (hXF.later hS0.below)
  have hsz := tyoM_sz t
  obtain ⟨x0, x1, x2, x3, x4, x5, x6, _, hb⟩ := id hS0
  clear hX hXF
  have htw := fun u A5 c5 W (hu : szT u ≤ 500) hC hl => twin_calls (szT u) u A5 c5 W (Nat.le_refl _) (by omega) hC hl
  unfold TypPost at hty
  generalize (tyoM t).1 = u at *
  go_enter Try.func20, Try.ntmps20
  go_wp2_with (first
    | (go_at_call 99; (with_reducible refine (htw u A5 c5 _ hsz C5 l5).mono ?_); rintro e w5 ⟨v, rfl, hT, hb5⟩; obtain ⟨A6, c6, hv6, hl6, hC6⟩ := hT.reads; subst hv6; have BR5 := blk_below BR3 hb5; obtain ⟨s0, s1, s2, s3, s4, s5, s6⟩ := box3s BR5)
    | (go_at_call 98; (with_reducible refine hty.mono ?_); rintro e w3 ⟨r, rfl, hT, hb3⟩; obtain ⟨A5, c5, hr5, l5, F5⟩ := hT; subst hr5; have hb3' := below_step hb3 (below_one (w := w3) (.cells #[.bool u.f0, .string u.f1, .slice A5 u.f2.length c5] 24)); have BR3 := blk_below BR hb3'; have C5 := Kd.C_below (Kd.F_now F5) (below_one (w := w3) (.cells #[.bool u.f0, .string u.f1, .slice A5 u.f2.length c5] 24)); have BU := blk_new w3 (.cells #[.bool u.f0, .string u.f1, .slice A5 u.f2.length c5] 24); obtain ⟨t0, t1, t2, t3, t4, t5, t6⟩ := box3s BU))
  have hlt := blk_lt BR3
  have hbf := (((below_step (below_step hb hb3') hb5).setCell (p := ⟨w.heap.size + 1, 0, none⟩) (by simp) (.bool u.f0)).setCell (p := ⟨w.heap.size + 1, 1, none⟩) (by simp) (.string u.f1)).setCell (p := ⟨w.heap.size + 1, 2, none⟩) (by simp) (.slice A6 u.f2.length c6)
  refine bodyPost_ret (results_ct rfl _ _ (w.heap.size + 1) 24 #[.bool u.f0, .string u.f1, .slice A6 u.f2.length c6] (0, 0) _ rfl (set3 BR5) Try.underlying24 rfl (by kernel_rfl)) rfl ?_
  refine ⟨_, rfl, Tr.of_WT (((hT.far _ _ ?_).far _ _ ?_).far _ _ ?_), hbf⟩
  all_goals (intro k hk; show k ≠ w.heap.size + 1; omega)
theorem tyoM_tr (t : S27) (hf : fitM t) (a : Value) (w : World) (ha : TrM w a t) : Calls Try.prog 20 #[a] w fun e w' => ∃ r, e = .returned (.tuple #[r, .int .i64 (chkM t)]) ∧ Tr w' r (tyoM t).1 ∧ Below w.heap.size w w' := by
  obtain ⟨A, c, B, d, rfl, hX⟩ := ha
  exact tyoM_calls t hf A c B d w hX
end Go.Proofs.Ytecplbgdalchdaa.Q
