/- Proved here: parts of the proof of a given statement (HRowTermsTyvars): contracts of the functions that it reaches, what they answer, and in the last text the statement itself. Conditions: those that each theorem names. -/
import Derived.Test.YtecplbgdalchdaaZTVX9
import Derived.Test.YtecplbgdalchdaaZTVX12
import Derived.Test.YtecplbgdalchdaaZTVX7
import Derived.Test.YtecplbgdalchdaaZTVX6
import Derived.Test.YtecplbgdalchdaaZTVX11
/- Proved here: what terms.formed answers on combinations. Conditions: those that each theorem names. -/
namespace Go.Proofs.Ytecplbgdalchdaa.Q
open Go.RowKit Go.Shelf Go.Proofs.YtecplbgdalchdaaW.PrintWords Go.Proofs.YtecplbgdalchdaaW.PrintMore
set_option linter.unusedVariables false
set_option linter.unusedSimpArgs false
attribute [local go_sem] Oper.semAt_some

theorem formM_comb (tn : ByteArray) (tt : S24) (ti : Int) (x y : S27) (l : List S24) : formM (⟨4, tn, tt, ti, [x, y]⟩ : S27) l = if (tn.size == 0 && isZ tt) && ti == 0 then formF tt ti [formM x l, formM y l] else none := by
  rw [formM_eq, formML_map]
  unfold formH inner
  rw [if_neg (by show ¬ ((4 : Int) = 1 ∨ (4 : Int) = 2); omega), if_neg (by show ¬ (4 : Int) = 3; omega), if_pos rfl]
  rfl
theorem formM_comb2 (t : S27) (l : List S24) (hk : t.f0 = 4) (hs : t.f4.length ≠ 2) : formM t l = none := by
  rw [formM_eq, formML_map]
  unfold formH
  rw [if_neg (by omega), if_neg (by omega), if_pos hk]
  split
  · unfold formF
    split
    · rename_i f x hf
      have := congrArg List.length hf
      simp at this
      exact absurd this hs
    · rfl
  · rfl
theorem formF_var {f u ty : S24} {i : Int} (h : f.f0 = true) : formF ty i [some f, some u] = none := by simp [formF, h]
theorem formF_name {f u ty : S24} {i : Int} (h : ¬ f.f1.toList = funN.toList) : formF ty i [some f, some u] = none := by simp [formF, h]
theorem formF_len {f u ty : S24} {i : Int} (h : ¬ f.f2.length = 2) : formF ty i [some f, some u] = none := by
  show (if (!f.f0 && f.f1.toList == funN.toList) = true then (match f.f2 with | [p, q] => if (cmpT p u == 0) = true then some q else none | _ => none) else none) = none
  split
  · split
    · rename_i p q hpq
      rw [hpq] at h
      exact absurd rfl h
    · rfl
  · rfl
theorem formF_ok {f u p q ty : S24} {i : Int} (h0 : f.f0 = false) (h1 : f.f1.toList = funN.toList) (h2 : f.f2 = [p, q]) : formF ty i [some f, some u] = if cmpT p u == 0 then some q else none := by simp [formF, h0, h1, h2]
theorem tm_two {w : World} {ok : Nat → Prop} {B : Option Addr} {d : Nat} {x y : S27} (h : Kd.F k27 w ok B 2 [x, y]) (hd : 2 ≤ d) : ∃ ad A7 c7 B7 d7 A8 c8 B8 d8, B = some ad ∧ RdF w ok x A7 c7 B7 d7 ∧ RdF w ok y A8 c8 B8 d8 ∧
    (w.cell? ad = some (.int .u8 x.f0) ∧ w.cell? ⟨ad.block, ad.off + 1, none⟩ = some (.string x.f1) ∧ w.cell? ⟨ad.block, ad.off + 2, none⟩ = some (.bool x.f2.f0) ∧ w.cell? ⟨ad.block, ad.off + 3, none⟩ = some (.string x.f2.f1) ∧ w.cell? ⟨ad.block, ad.off + 4, none⟩ = some (.slice A7 x.f2.f2.length c7) ∧ w.cell? ⟨ad.block, ad.off + 5, none⟩ = some (.int .i64 x.f3) ∧ w.cell? ⟨ad.block, ad.off + 6, none⟩ = some (.slice B7 x.f4.length d7)) ∧
    w.cell? ⟨ad.block, ad.off + 7, none⟩ = some (.int .u8 y.f0) ∧ w.cell? ⟨ad.block, ad.off + 7 + 1, none⟩ = some (.string y.f1) ∧ w.cell? ⟨ad.block, ad.off + 7 + 2, none⟩ = some (.bool y.f2.f0) ∧ w.cell? ⟨ad.block, ad.off + 7 + 3, none⟩ = some (.string y.f2.f1) ∧ w.cell? ⟨ad.block, ad.off + 7 + 4, none⟩ = some (.slice A8 y.f2.f2.length c8) ∧ w.cell? ⟨ad.block, ad.off + 7 + 5, none⟩ = some (.int .i64 y.f3) ∧ w.cell? ⟨ad.block, ad.off + 7 + 6, none⟩ = some (.slice B8 y.f4.length d8) := by
  have hV : Kd.V k27 27 w 0 ok (.slice B ([x, y] : List S27).length d) [x, y] := Kd.V_mk hd h
  obtain ⟨ad, A7, c7, B7, d7, rfl, ⟨e0, e1, e2, e3, e4, e5, e6⟩, r1⟩ := tm_elem hV 0 (by simp)
  obtain ⟨ad', A8, c8, B8, d8, he, ⟨f0, f1, f2, f3, f4, f5, f6⟩, r2⟩ := tm_elem hV 1 (by simp)
  injection he with he
  subst he
  exact ⟨ad, A7, c7, B7, d7, A8, c8, B8, d8, rfl, r1, r2, ⟨e0, e1, e2, e3, e4, e5, e6⟩, f0, f1, f2, f3, f4, f5, f6⟩
theorem ty_two {w : World} {ok : Nat → Prop} {B : Option Addr} {d : Nat} {x y : S24} (h : Kd.F k24 w ok B 2 [x, y]) (hd : 2 ≤ d) : ∃ ad A7 c7 A8 c8, B = some ad ∧ TrF w ok (.agg #[.bool x.f0, .string x.f1, .slice A7 x.f2.length c7]) x ∧ (y.f2.length ≤ c8 ∧ Kd.F k24 w ok A8 y.f2.length y.f2) ∧
    (w.cell? ad = some (.bool x.f0) ∧ w.cell? ⟨ad.block, ad.off + 1, none⟩ = some (.string x.f1) ∧ w.cell? ⟨ad.block, ad.off + 2, none⟩ = some (.slice A7 x.f2.length c7)) ∧
    w.cell? ⟨ad.block, ad.off + 3, none⟩ = some (.bool y.f0) ∧ w.cell? ⟨ad.block, ad.off + 3 + 1, none⟩ = some (.string y.f1) ∧ w.cell? ⟨ad.block, ad.off + 3 + 2, none⟩ = some (.slice A8 y.f2.length c8) := by
  have hV : Kd.V k24 24 w 0 ok (.slice B ([x, y] : List S24).length d) [x, y] := Kd.V_mk hd h
  obtain ⟨ad, A7, c7, rfl, e0, e1, e2, l1, g1⟩ := ty_elem hV 0 (by simp)
  obtain ⟨ad', A8, c8, he, f0, f1, f2, k1, h1⟩ := ty_elem hV 1 (by simp)
  injection he with he
  subst he
  exact ⟨ad, A7, c7, A8, c8, rfl, ⟨A7, c7, rfl, l1, Kd.V_F g1⟩, ⟨k1, Kd.V_F h1⟩, ⟨e0, e1, e2⟩, f0, f1, f2⟩
set_option maxHeartbeats 8000000 in
set_option maxRecDepth 100000 in
theorem formed_comb (tn : ByteArray) (tt : S24) (ti : Int) (x y : S27) (lo : List S24) (A : Option Addr) (c : Nat) (B : Option Addr) (d : Nat) (E : Option Addr) (ce : Nat) (w : World) (ok : Nat → Prop) (hok : ∀ k, ok k → k < w.heap.size) (hX : RdF w ok (⟨4, tn, tt, ti, [x, y]⟩ : S27) A c B d)
    (ihx : ∀ A c B d W, Below w.heap.size w W → RdF W ok x A c B d → Calls Try.prog 168 #[.agg #[.int .u8 x.f0, .string x.f1, .bool x.f2.f0, .string x.f2.f1, .slice A x.f2.f2.length c, .int .i64 x.f3, .slice B x.f4.length d], .slice E lo.length ce] W (FormPost W ok (formM x lo.reverse)))
    (ihy : ∀ A c B d W, Below w.heap.size w W → RdF W ok y A c B d → Calls Try.prog 168 #[.agg #[.int .u8 y.f0, .string y.f1, .bool y.f2.f0, .string y.f2.f1, .slice A y.f2.f2.length c, .int .i64 y.f3, .slice B y.f4.length d], .slice E lo.length ce] W (FormPost W ok (formM y lo.reverse))) :
    Calls Try.prog 168 #[.agg #[.int .u8 4, .string tn, .bool tt.f0, .string tt.f1, .slice A tt.f2.length c, .int .i64 ti, .slice B 2 d], .slice E lo.length ce] w (FormPost w ok (formM (⟨4, tn, tt, ti, [x, y]⟩ : S27) lo.reverse)) := by
  have hS0 := FmS.start w (⟨4, tn, tt, ti, [x, y]⟩ : S27) A c B d
  have BR := (two_new w (.cells #[.int .u8 4, .string tn, .bool tt.f0, .string tt.f1, .slice A tt.f2.length c, .int .i64 ti, .slice B 2 d] 27) (.cells #[.bool false, .string ⟨#[]⟩, .slice none 0 0] 24)).2.2
  have hpl := fun W (hw : Below w.heap.size w W) => terms_plain.calls 4 tn tt.f0 tt.f1 A c tt.f2 ti B d [x, y] false false false _ W (hX.at hw).1.1 hX.1.2 (hX.at hw).2.1 hX.2.2 (plain_fff (⟨4, tn, tt, ti, [x, y]⟩ : S27))
  have hF := formM_comb tn tt ti x y lo.reverse
  dsimp only [List.length_cons, List.length_nil] at hS0 hpl
  obtain ⟨ad, A7, c7, B7, d7, A8, c8, B8, d8, rfl, hXx, hXy, hel0⟩ := tm_two hX.2.1 hX.2.2
  have hel := fun W (hw : Below w.heap.size w W) => show ((W.cell? ad = some (.int .u8 x.f0) ∧ W.cell? ⟨ad.block, ad.off + 1, none⟩ = some (.string x.f1) ∧ W.cell? ⟨ad.block, ad.off + 2, none⟩ = some (.bool x.f2.f0) ∧ W.cell? ⟨ad.block, ad.off + 3, none⟩ = some (.string x.f2.f1) ∧ W.cell? ⟨ad.block, ad.off + 4, none⟩ = some (.slice A7 x.f2.f2.length c7) ∧ W.cell? ⟨ad.block, ad.off + 5, none⟩ = some (.int .i64 x.f3) ∧ W.cell? ⟨ad.block, ad.off + 6, none⟩ = some (.slice B7 x.f4.length d7)) ∧ W.cell? ⟨ad.block, ad.off + 7, none⟩ = some (.int .u8 y.f0) ∧ W.cell? ⟨ad.block, ad.off + 7 + 1, none⟩ = some (.string y.f1) ∧ W.cell? ⟨ad.block, ad.off + 7 + 2, none⟩ = some (.bool y.f2.f0) ∧ W.cell? ⟨ad.block, ad.off + 7 + 3, none⟩ = some (.string y.f2.f1) ∧ W.cell? ⟨ad.block, ad.off + 7 + 4, none⟩ = some (.slice A8 y.f2.f2.length c8) ∧ W.cell? ⟨ad.block, ad.off + 7 + 5, none⟩ = some (.int .i64 y.f3) ∧ W.cell? ⟨ad.block, ad.off + 7 + 6, none⟩ = some (.slice B8 y.f4.length d8)) from by
    obtain ⟨⟨e0, e1, e2, e3, e4, e5, e6⟩, f0, f1, f2, f3, f4, f5, f6⟩ := hel0
    exact ⟨⟨pw_cell_below hw e0, pw_cell_below hw e1, pw_cell_below hw e2, pw_cell_below hw e3, pw_cell_below hw e4, pw_cell_below hw e5, pw_cell_below hw e6⟩, pw_cell_below hw f0, pw_cell_below hw f1, pw_cell_below hw f2, pw_cell_below hw f3, pw_cell_below hw f4, pw_cell_below hw f5, pw_cell_below hw f6⟩
  replace ihx := fun W (hw : Below w.heap.size w W) => ihx A7 c7 B7 d7 W hw (hXx.later hw)
  replace ihy := fun W (hw : Below w.heap.size w W) => ihy A8 c8 B8 d8 W hw (hXy.later hw)
  obtain ⟨x0, x1, x2, x3, x4, x5, x6, _, hb⟩ := id hS0
  clear hX hXx hXy hel0
  generalize formM x lo.reverse = o1 at *
  generalize formM y lo.reverse = o2 at *
  generalize (tn.size == 0 && isZ tt && ti == 0) = pz at *
  cases pz with
  | false =>
    have HF := Aside0.mk (show formM (⟨4, tn, tt, ti, [x, y]⟩ : S27) lo.reverse = none by rw [hF]; simp)
    clear hF ihx ihy
    go_enter Try.func168, Try.ntmps168
    go_wp2_with (first
      | (go_at_call 209; (with_reducible refine (hpl _ hS0.below).mono ?_); rintro e w3 ⟨rfl, hb3⟩; have hN3 := hS0.step hb3; have BR3 := blk_below BR hb3; obtain ⟨s0, s1, s2, s3, s4, s5, s6⟩ := box3s BR3; obtain ⟨x0, x1, x2, x3, x4, x5, x6, _, hb⟩ := id hN3; obtain ⟨⟨e0, e1, e2, e3, e4, e5, e6⟩, f0, f1, f2, f3, f4, f5, f6⟩ := hel _ hb))
    refine bodyPost_ret (results_ct rfl _ _ (w.heap.size + 1) 24 #[.bool false, .string ⟨#[]⟩, .slice none 0 0] (0, 0) _ rfl (set3 BR3) Try.underlying24 rfl (by kernel_rfl)) rfl ?_
    exact ⟨_, zT, by rw [HF.out]; rfl, TrF.leaf _ _ _ _, (fun v hv => by rw [HF.out] at hv; cases hv), ((hb.setCell (by simp) _).setCell (by simp) _).setCell (by simp) _⟩
  | true =>
    replace hF : formM (⟨4, tn, tt, ti, [x, y]⟩ : S27) lo.reverse = formF tt ti [o1, o2] := by rw [hF]; simp
    cases o1 with
    | none =>
      have HF := Aside0.mk (show formM (⟨4, tn, tt, ti, [x, y]⟩ : S27) lo.reverse = none by rw [hF]; rfl)
      clear hF
      go_enter Try.func168, Try.ntmps168
      go_wp2_with (first
        | (go_at_call 168; (with_reducible refine (ihy _ hN4.below).mono ?_); rintro e w5 ⟨r2, u2, rfl, hT2, hu2, hb5⟩; (first | (have hu2' := hu2 _ rfl; subst hu2'; clear hu2) | clear hu2); obtain ⟨A6, c6, rfl, l6, C6⟩ := hT2; have hb5' := below_step hb5 (below_one (w := w5) (.cells #[.bool u2.f0, .string u2.f1, .slice A6 u2.f2.length c6] 24)); have hN5 := hN4.step hb5'; have BR5 := blk_below BR4 hb5'; have B6' := blk_below B6 hb5'; have B8 := blk_new w5 (.cells #[.bool u2.f0, .string u2.f1, .slice A6 u2.f2.length c6] 24); have C4'' := Kd.F_below C4' hb5'; have C6' := Kd.F_below C6 (below_one (w := w5) (.cells #[.bool u2.f0, .string u2.f1, .slice A6 u2.f2.length c6] 24)); obtain ⟨s0, s1, s2, s3, s4, s5, s6⟩ := box3s BR5; obtain ⟨m0, m1, m2, m3, m4, m5, m6⟩ := box3s B6'; obtain ⟨n0, n1, n2, n3, n4, n5, n6⟩ := box3s B8; obtain ⟨x0, x1, x2, x3, x4, x5, x6, _, hb⟩ := id hN5; obtain ⟨⟨e0, e1, e2, e3, e4, e5, e6⟩, f0, f1, f2, f3, f4, f5, f6⟩ := hel _ hb)
        | (go_at_call 168; (with_reducible refine (ihx _ hN3.below).mono ?_); rintro e w4 ⟨r1, u1, rfl, hT1, hu1, hb4⟩; (first | (have hu1' := hu1 _ rfl; subst hu1'; clear hu1) | clear hu1); obtain ⟨A4, c4, rfl, l4, C4⟩ := hT1; have hb4' := below_step hb4 (below_one (w := w4) (.cells #[.bool u1.f0, .string u1.f1, .slice A4 u1.f2.length c4] 24)); have hN4 := hN3.step hb4'; have BR4 := blk_below BR3 hb4'; have B6 := blk_new w4 (.cells #[.bool u1.f0, .string u1.f1, .slice A4 u1.f2.length c4] 24); have C4' := Kd.F_below C4 (below_one (w := w4) (.cells #[.bool u1.f0, .string u1.f1, .slice A4 u1.f2.length c4] 24)); obtain ⟨x0, x1, x2, x3, x4, x5, x6, _, hb⟩ := id hN4; obtain ⟨⟨e0, e1, e2, e3, e4, e5, e6⟩, f0, f1, f2, f3, f4, f5, f6⟩ := hel _ hb)
        | (go_at_call 209; (with_reducible refine (hpl _ hS0.below).mono ?_); rintro e w3 ⟨rfl, hb3⟩; have hN3 := hS0.step hb3; have BR3 := blk_below BR hb3; obtain ⟨s0, s1, s2, s3, s4, s5, s6⟩ := box3s BR3; obtain ⟨x0, x1, x2, x3, x4, x5, x6, _, hb⟩ := id hN3; obtain ⟨⟨e0, e1, e2, e3, e4, e5, e6⟩, f0, f1, f2, f3, f4, f5, f6⟩ := hel _ hb))
      go_quiet (fail)
      go_wp2_with fail
      have BRq := blk_below BR5 (pw_below_drewN (Below.refl _ _) nq)
      have hbq := pw_below_drewN hb nq
      refine bodyPost_ret (results_ct rfl _ _ (w.heap.size + 1) 24 #[.bool false, .string ⟨#[]⟩, .slice none 0 0] (0, 0) _ rfl (set3 BRq) Try.underlying24 rfl (by kernel_rfl)) rfl ?_
      exact ⟨_, zT, by rw [HF.out]; rfl, TrF.leaf _ _ _ _, (fun v hv => by rw [HF.out] at hv; cases hv), ((hbq.setCell (by simp) _).setCell (by simp) _).setCell (by simp) _⟩
    | some f =>
      cases o2 with
      | none =>
        have HF := Aside0.mk (show formM (⟨4, tn, tt, ti, [x, y]⟩ : S27) lo.reverse = none by rw [hF]; rfl)
        clear hF
        go_enter Try.func168, Try.ntmps168
        go_wp2_with (first
          | (go_at_call 168; (with_reducible refine (ihy _ hN4.below).mono ?_); rintro e w5 ⟨r2, u2, rfl, hT2, hu2, hb5⟩; (first | (have hu2' := hu2 _ rfl; subst hu2'; clear hu2) | clear hu2); obtain ⟨A6, c6, rfl, l6, C6⟩ := hT2; have hb5' := below_step hb5 (below_one (w := w5) (.cells #[.bool u2.f0, .string u2.f1, .slice A6 u2.f2.length c6] 24)); have hN5 := hN4.step hb5'; have BR5 := blk_below BR4 hb5'; have B6' := blk_below B6 hb5'; have B8 := blk_new w5 (.cells #[.bool u2.f0, .string u2.f1, .slice A6 u2.f2.length c6] 24); have C4'' := Kd.F_below C4' hb5'; have C6' := Kd.F_below C6 (below_one (w := w5) (.cells #[.bool u2.f0, .string u2.f1, .slice A6 u2.f2.length c6] 24)); obtain ⟨s0, s1, s2, s3, s4, s5, s6⟩ := box3s BR5; obtain ⟨m0, m1, m2, m3, m4, m5, m6⟩ := box3s B6'; obtain ⟨n0, n1, n2, n3, n4, n5, n6⟩ := box3s B8; obtain ⟨x0, x1, x2, x3, x4, x5, x6, _, hb⟩ := id hN5; obtain ⟨⟨e0, e1, e2, e3, e4, e5, e6⟩, f0, f1, f2, f3, f4, f5, f6⟩ := hel _ hb)
          | (go_at_call 168; (with_reducible refine (ihx _ hN3.below).mono ?_); rintro e w4 ⟨r1, u1, rfl, hT1, hu1, hb4⟩; (first | (have hu1' := hu1 _ rfl; subst hu1'; clear hu1) | clear hu1); obtain ⟨A4, c4, rfl, l4, C4⟩ := hT1; have hb4' := below_step hb4 (below_one (w := w4) (.cells #[.bool u1.f0, .string u1.f1, .slice A4 u1.f2.length c4] 24)); have hN4 := hN3.step hb4'; have BR4 := blk_below BR3 hb4'; have B6 := blk_new w4 (.cells #[.bool u1.f0, .string u1.f1, .slice A4 u1.f2.length c4] 24); have C4' := Kd.F_below C4 (below_one (w := w4) (.cells #[.bool u1.f0, .string u1.f1, .slice A4 u1.f2.length c4] 24)); obtain ⟨x0, x1, x2, x3, x4, x5, x6, _, hb⟩ := id hN4; obtain ⟨⟨e0, e1, e2, e3, e4, e5, e6⟩, f0, f1, f2, f3, f4, f5, f6⟩ := hel _ hb)
          | (go_at_call 209; (with_reducible refine (hpl _ hS0.below).mono ?_); rintro e w3 ⟨rfl, hb3⟩; have hN3 := hS0.step hb3; have BR3 := blk_below BR hb3; obtain ⟨s0, s1, s2, s3, s4, s5, s6⟩ := box3s BR3; obtain ⟨x0, x1, x2, x3, x4, x5, x6, _, hb⟩ := id hN3; obtain ⟨⟨e0, e1, e2, e3, e4, e5, e6⟩, f0, f1, f2, f3, f4, f5, f6⟩ := hel _ hb))
        go_quiet (fail)
        go_wp2_with fail
        have BRq := blk_below BR5 (pw_below_drewN (Below.refl _ _) nq)
        have hbq := pw_below_drewN hb nq
        refine bodyPost_ret (results_ct rfl _ _ (w.heap.size + 1) 24 #[.bool false, .string ⟨#[]⟩, .slice none 0 0] (0, 0) _ rfl (set3 BRq) Try.underlying24 rfl (by kernel_rfl)) rfl ?_
        exact ⟨_, zT, by rw [HF.out]; rfl, TrF.leaf _ _ _ _, (fun v hv => by rw [HF.out] at hv; cases hv), ((hbq.setCell (by simp) _).setCell (by simp) _).setCell (by simp) _⟩
      | some u =>
        by_cases hv : f.f0 = true
        · have HF := Aside0.mk (show formM (⟨4, tn, tt, ti, [x, y]⟩ : S27) lo.reverse = none by rw [hF, formF_var hv])
          have HV := Aside0.mk hv
          clear hF hv
          go_enter Try.func168, Try.ntmps168
          go_wp2_with (first
            | (go_at_call 168; (with_reducible refine (ihy _ hN4.below).mono ?_); rintro e w5 ⟨r2, u2, rfl, hT2, hu2, hb5⟩; (first | (have hu2' := hu2 _ rfl; subst hu2'; clear hu2) | clear hu2); obtain ⟨A6, c6, rfl, l6, C6⟩ := hT2; have hb5' := below_step hb5 (below_one (w := w5) (.cells #[.bool u2.f0, .string u2.f1, .slice A6 u2.f2.length c6] 24)); have hN5 := hN4.step hb5'; have BR5 := blk_below BR4 hb5'; have B6' := blk_below B6 hb5'; have B8 := blk_new w5 (.cells #[.bool u2.f0, .string u2.f1, .slice A6 u2.f2.length c6] 24); have C4'' := Kd.F_below C4' hb5'; have C6' := Kd.F_below C6 (below_one (w := w5) (.cells #[.bool u2.f0, .string u2.f1, .slice A6 u2.f2.length c6] 24)); obtain ⟨s0, s1, s2, s3, s4, s5, s6⟩ := box3s BR5; obtain ⟨m0, m1, m2, m3, m4, m5, m6⟩ := box3s B6'; obtain ⟨n0, n1, n2, n3, n4, n5, n6⟩ := box3s B8; obtain ⟨x0, x1, x2, x3, x4, x5, x6, _, hb⟩ := id hN5; obtain ⟨⟨e0, e1, e2, e3, e4, e5, e6⟩, f0, f1, f2, f3, f4, f5, f6⟩ := hel _ hb)
            | (go_at_call 168; (with_reducible refine (ihx _ hN3.below).mono ?_); rintro e w4 ⟨r1, u1, rfl, hT1, hu1, hb4⟩; (first | (have hu1' := hu1 _ rfl; subst hu1'; clear hu1) | clear hu1); obtain ⟨A4, c4, rfl, l4, C4⟩ := hT1; have hb4' := below_step hb4 (below_one (w := w4) (.cells #[.bool u1.f0, .string u1.f1, .slice A4 u1.f2.length c4] 24)); have hN4 := hN3.step hb4'; have BR4 := blk_below BR3 hb4'; have B6 := blk_new w4 (.cells #[.bool u1.f0, .string u1.f1, .slice A4 u1.f2.length c4] 24); have C4' := Kd.F_below C4 (below_one (w := w4) (.cells #[.bool u1.f0, .string u1.f1, .slice A4 u1.f2.length c4] 24)); obtain ⟨x0, x1, x2, x3, x4, x5, x6, _, hb⟩ := id hN4; obtain ⟨⟨e0, e1, e2, e3, e4, e5, e6⟩, f0, f1, f2, f3, f4, f5, f6⟩ := hel _ hb)
            | (go_at_call 209; (with_reducible refine (hpl _ hS0.below).mono ?_); rintro e w3 ⟨rfl, hb3⟩; have hN3 := hS0.step hb3; have BR3 := blk_below BR hb3; obtain ⟨s0, s1, s2, s3, s4, s5, s6⟩ := box3s BR3; obtain ⟨x0, x1, x2, x3, x4, x5, x6, _, hb⟩ := id hN3; obtain ⟨⟨e0, e1, e2, e3, e4, e5, e6⟩, f0, f1, f2, f3, f4, f5, f6⟩ := hel _ hb))
          rw [HV.out] at m0
          go_quiet (fail)
          go_wp2_with fail
          have BRq := blk_below BR5 (pw_below_drewN (Below.refl _ _) nq)
          have hbq := pw_below_drewN hb nq
          refine bodyPost_ret (results_ct rfl _ _ (w.heap.size + 1) 24 #[.bool false, .string ⟨#[]⟩, .slice none 0 0] (0, 0) _ rfl (set3 BRq) Try.underlying24 rfl (by kernel_rfl)) rfl ?_
          exact ⟨_, zT, by rw [HF.out]; rfl, TrF.leaf _ _ _ _, (fun v hv => by rw [HF.out] at hv; cases hv), ((hbq.setCell (by simp) _).setCell (by simp) _).setCell (by simp) _⟩
        · have hv' : f.f0 = false := by simpa using hv
          by_cases hn : f.f1.toList = funN.toList
          · by_cases hl : f.f2.length = 2
            · obtain ⟨p, q, hpq⟩ : ∃ p q, f.f2 = [p, q] := by
                match hfl : f.f2, hl with
                | [p, q], _ => exact ⟨p, q, rfl⟩
              have hF2 := hF.trans (formF_ok (u := u) (ty := tt) (i := ti) hv' hn hpq)
              have HV := Aside0.mk hv'
              have HL := Aside0.mk hpq
              have n1 : (f.f1.toList == [102, 117, 110]) = true := by rw [hn, funN_list]; rfl
              have n2 : (f.f1.toList != [102, 117, 110]) = false := by rw [bne, n1]; rfl
              clear hv hv' hn hl hF hpq
              cases hcb : (cmpT p u == 0) with
              | false =>
                have HF := Aside0.mk (show formM (⟨4, tn, tt, ti, [x, y]⟩ : S27) lo.reverse = none by rw [hF2, hcb]; rfl)
                clear hF2
                go_enter Try.func168, Try.ntmps168
                go_wp2_with (first
                  | (go_at_call 168; (with_reducible refine (ihy _ hN4.below).mono ?_); rintro e w5 ⟨r2, u2, rfl, hT2, hu2, hb5⟩; (first | (have hu2' := hu2 _ rfl; subst hu2'; clear hu2) | clear hu2); obtain ⟨A6, c6, rfl, l6, C6⟩ := hT2; have hb5' := below_step hb5 (below_one (w := w5) (.cells #[.bool u2.f0, .string u2.f1, .slice A6 u2.f2.length c6] 24)); have hN5 := hN4.step hb5'; have BR5 := blk_below BR4 hb5'; have B6' := blk_below B6 hb5'; have B8 := blk_new w5 (.cells #[.bool u2.f0, .string u2.f1, .slice A6 u2.f2.length c6] 24); have C4'' := Kd.F_below C4' hb5'; have C6' := Kd.F_below C6 (below_one (w := w5) (.cells #[.bool u2.f0, .string u2.f1, .slice A6 u2.f2.length c6] 24)); obtain ⟨s0, s1, s2, s3, s4, s5, s6⟩ := box3s BR5; obtain ⟨m0, m1, m2, m3, m4, m5, m6⟩ := box3s B6'; obtain ⟨n0, n1, n2, n3, n4, n5, n6⟩ := box3s B8; obtain ⟨x0, x1, x2, x3, x4, x5, x6, _, hb⟩ := id hN5; obtain ⟨⟨e0, e1, e2, e3, e4, e5, e6⟩, f0, f1, f2, f3, f4, f5, f6⟩ := hel _ hb)
                  | (go_at_call 168; (with_reducible refine (ihx _ hN3.below).mono ?_); rintro e w4 ⟨r1, u1, rfl, hT1, hu1, hb4⟩; (first | (have hu1' := hu1 _ rfl; subst hu1'; clear hu1) | clear hu1); obtain ⟨A4, c4, rfl, l4, C4⟩ := hT1; have hb4' := below_step hb4 (below_one (w := w4) (.cells #[.bool u1.f0, .string u1.f1, .slice A4 u1.f2.length c4] 24)); have hN4 := hN3.step hb4'; have BR4 := blk_below BR3 hb4'; have B6 := blk_new w4 (.cells #[.bool u1.f0, .string u1.f1, .slice A4 u1.f2.length c4] 24); have C4' := Kd.F_below C4 (below_one (w := w4) (.cells #[.bool u1.f0, .string u1.f1, .slice A4 u1.f2.length c4] 24)); obtain ⟨x0, x1, x2, x3, x4, x5, x6, _, hb⟩ := id hN4; obtain ⟨⟨e0, e1, e2, e3, e4, e5, e6⟩, f0, f1, f2, f3, f4, f5, f6⟩ := hel _ hb)
                  | (go_at_call 209; (with_reducible refine (hpl _ hS0.below).mono ?_); rintro e w3 ⟨rfl, hb3⟩; have hN3 := hS0.step hb3; have BR3 := blk_below BR hb3; obtain ⟨s0, s1, s2, s3, s4, s5, s6⟩ := box3s BR3; obtain ⟨x0, x1, x2, x3, x4, x5, x6, _, hb⟩ := id hN3; obtain ⟨⟨e0, e1, e2, e3, e4, e5, e6⟩, f0, f1, f2, f3, f4, f5, f6⟩ := hel _ hb))
                rw [HV.out] at m0
                rw [HL.out] at m2 C4''
                simp only [List.length_cons, List.length_nil] at m2 C4''
                rw [HL.out] at l4
                obtain ⟨ed, A9, c9, A10, c10, hed, hT9, ⟨l10, C10⟩, ⟨d0, d1, d2⟩, t0, t1, t2⟩ := ty_two C4'' l4
                subst hed
                generalize hW5 : w5.alloc (.cells #[.bool u2.f0, .string u2.f1, .slice A6 u2.f2.length c6] 24) = W5 at *
                have hT6 : Tr W5 (.agg #[.bool u2.f0, .string u2.f1, .slice A6 u2.f2.length c6]) u2 := ⟨A6, c6, rfl, l6, Kd.F_now C6'⟩
                have esm := fun W (hw : Below W5.heap.size W5 W) => same_tr p u2 _ _ W (hT9.tr.later hw) (hT6.later hw)
                rw [hcb] at esm
                have hst : ∀ W W', (W.cell? ⟨w4.heap.size, 0, none⟩ = some (.bool false) ∧ W.cell? ⟨w4.heap.size, 1, none⟩ = some (.string u1.f1) ∧ W.cell? ⟨w4.heap.size, 2, none⟩ = some (.slice (some ed) 2 c4) ∧ W.cell? ⟨w5.heap.size, 0, none⟩ = some (.bool u2.f0) ∧ W.cell? ⟨w5.heap.size, 1, none⟩ = some (.string u2.f1) ∧ W.cell? ⟨w5.heap.size, 2, none⟩ = some (.slice A6 u2.f2.length c6) ∧ W.cell? ed = some (.bool p.f0) ∧ W.cell? ⟨ed.block, ed.off + 1, none⟩ = some (.string p.f1) ∧ W.cell? ⟨ed.block, ed.off + 2, none⟩ = some (.slice A9 p.f2.length c9) ∧ Below W5.heap.size W5 W) → Below W.heap.size W W' → (W'.cell? ⟨w4.heap.size, 0, none⟩ = some (.bool false) ∧ W'.cell? ⟨w4.heap.size, 1, none⟩ = some (.string u1.f1) ∧ W'.cell? ⟨w4.heap.size, 2, none⟩ = some (.slice (some ed) 2 c4) ∧ W'.cell? ⟨w5.heap.size, 0, none⟩ = some (.bool u2.f0) ∧ W'.cell? ⟨w5.heap.size, 1, none⟩ = some (.string u2.f1) ∧ W'.cell? ⟨w5.heap.size, 2, none⟩ = some (.slice A6 u2.f2.length c6) ∧ W'.cell? ed = some (.bool p.f0) ∧ W'.cell? ⟨ed.block, ed.off + 1, none⟩ = some (.string p.f1) ∧ W'.cell? ⟨ed.block, ed.off + 2, none⟩ = some (.slice A9 p.f2.length c9) ∧ Below W5.heap.size W5 W') := fun W W' h hb => by obtain ⟨h0, h1, h2, h3, h4, h5, h6, h7, h8, h9⟩ := h; exact ⟨pw_cell_below hb h0, pw_cell_below hb h1, pw_cell_below hb h2, pw_cell_below hb h3, pw_cell_below hb h4, pw_cell_below hb h5, pw_cell_below hb h6, pw_cell_below hb h7, pw_cell_below hb h8, below_step h9 hb⟩
                have hK5 : (W5.cell? ⟨w4.heap.size, 0, none⟩ = some (.bool false) ∧ W5.cell? ⟨w4.heap.size, 1, none⟩ = some (.string u1.f1) ∧ W5.cell? ⟨w4.heap.size, 2, none⟩ = some (.slice (some ed) 2 c4) ∧ W5.cell? ⟨w5.heap.size, 0, none⟩ = some (.bool u2.f0) ∧ W5.cell? ⟨w5.heap.size, 1, none⟩ = some (.string u2.f1) ∧ W5.cell? ⟨w5.heap.size, 2, none⟩ = some (.slice A6 u2.f2.length c6) ∧ W5.cell? ed = some (.bool p.f0) ∧ W5.cell? ⟨ed.block, ed.off + 1, none⟩ = some (.string p.f1) ∧ W5.cell? ⟨ed.block, ed.off + 2, none⟩ = some (.slice A9 p.f2.length c9) ∧ Below W5.heap.size W5 W5) := ⟨m0, m1, m2, n0, n1, n2, d0, d1, d2, Below.refl _ _⟩
                have hK0 := hst _ _ hK5 (below_drew1 (Below.refl _ _))
                have esm2 := fun W (hw : (W.cell? ⟨w4.heap.size, 0, none⟩ = some (.bool false) ∧ W.cell? ⟨w4.heap.size, 1, none⟩ = some (.string u1.f1) ∧ W.cell? ⟨w4.heap.size, 2, none⟩ = some (.slice (some ed) 2 c4) ∧ W.cell? ⟨w5.heap.size, 0, none⟩ = some (.bool u2.f0) ∧ W.cell? ⟨w5.heap.size, 1, none⟩ = some (.string u2.f1) ∧ W.cell? ⟨w5.heap.size, 2, none⟩ = some (.slice A6 u2.f2.length c6) ∧ W.cell? ed = some (.bool p.f0) ∧ W.cell? ⟨ed.block, ed.off + 1, none⟩ = some (.string p.f1) ∧ W.cell? ⟨ed.block, ed.off + 2, none⟩ = some (.slice A9 p.f2.length c9) ∧ Below W5.heap.size W5 W)) => (esm W hw.2.2.2.2.2.2.2.2.2).mono (fun _ _ h => And.intro h.1 (hst _ _ hw h.2))
                go_region_held3 (fun W => (W.cell? ⟨w4.heap.size, 0, none⟩ = some (.bool false) ∧ W.cell? ⟨w4.heap.size, 1, none⟩ = some (.string u1.f1) ∧ W.cell? ⟨w4.heap.size, 2, none⟩ = some (.slice (some ed) 2 c4) ∧ W.cell? ⟨w5.heap.size, 0, none⟩ = some (.bool u2.f0) ∧ W.cell? ⟨w5.heap.size, 1, none⟩ = some (.string u2.f1) ∧ W.cell? ⟨w5.heap.size, 2, none⟩ = some (.slice A6 u2.f2.length c6) ∧ W.cell? ed = some (.bool p.f0) ∧ W.cell? ⟨ed.block, ed.off + 1, none⟩ = some (.string p.f1) ∧ W.cell? ⟨ed.block, ed.off + 2, none⟩ = some (.slice A9 p.f2.length c9) ∧ Below W5.heap.size W5 W)) (first | (with_reducible exact hK0) | (with_reducible assumption)) (first | (go_at_call 52; (with_reducible refine (esm2 _ (by with_reducible assumption)).mono ?_); rintro e w6 ⟨rfl, hN6⟩))
                obtain ⟨s0, s1, s2, s3, s4, s5, s6⟩ := box3s (blk_below BR5 hN6.2.2.2.2.2.2.2.2.2)
                have BR6 := blk_below BR5 hN6.2.2.2.2.2.2.2.2.2
                have hb6 := below_step hN5.below hN6.2.2.2.2.2.2.2.2.2
                go_wp2_with fail
                refine bodyPost_ret (results_ct rfl _ _ (w.heap.size + 1) 24 #[.bool false, .string ⟨#[]⟩, .slice none 0 0] (0, 0) _ rfl (set3 BR6) Try.underlying24 rfl (by kernel_rfl)) rfl ?_
                exact ⟨_, zT, by rw [HF.out]; rfl, TrF.leaf _ _ _ _, (fun v hv => by rw [HF.out] at hv; cases hv), ((hb6.setCell (by simp) _).setCell (by simp) _).setCell (by simp) _⟩
              | true =>
                have HF := Aside0.mk (show formM (⟨4, tn, tt, ti, [x, y]⟩ : S27) lo.reverse = some q by rw [hF2, hcb]; rfl)
                clear hF2
                go_enter Try.func168, Try.ntmps168
                go_wp2_with (first
                  | (go_at_call 168; (with_reducible refine (ihy _ hN4.below).mono ?_); rintro e w5 ⟨r2, u2, rfl, hT2, hu2, hb5⟩; (first | (have hu2' := hu2 _ rfl; subst hu2'; clear hu2) | clear hu2); obtain ⟨A6, c6, rfl, l6, C6⟩ := hT2; have hb5' := below_step hb5 (below_one (w := w5) (.cells #[.bool u2.f0, .string u2.f1, .slice A6 u2.f2.length c6] 24)); have hN5 := hN4.step hb5'; have BR5 := blk_below BR4 hb5'; have B6' := blk_below B6 hb5'; have B8 := blk_new w5 (.cells #[.bool u2.f0, .string u2.f1, .slice A6 u2.f2.length c6] 24); have C4'' := Kd.F_below C4' hb5'; have C6' := Kd.F_below C6 (below_one (w := w5) (.cells #[.bool u2.f0, .string u2.f1, .slice A6 u2.f2.length c6] 24)); obtain ⟨s0, s1, s2, s3, s4, s5, s6⟩ := box3s BR5; obtain ⟨m0, m1, m2, m3, m4, m5, m6⟩ := box3s B6'; obtain ⟨n0, n1, n2, n3, n4, n5, n6⟩ := box3s B8; obtain ⟨x0, x1, x2, x3, x4, x5, x6, _, hb⟩ := id hN5; obtain ⟨⟨e0, e1, e2, e3, e4, e5, e6⟩, f0, f1, f2, f3, f4, f5, f6⟩ := hel _ hb)
                  | (go_at_call 168; (with_reducible refine (ihx _ hN3.below).mono ?_); rintro e w4 ⟨r1, u1, rfl, hT1, hu1, hb4⟩; (first | (have hu1' := hu1 _ rfl; subst hu1'; clear hu1) | clear hu1); obtain ⟨A4, c4, rfl, l4, C4⟩ := hT1; have hb4' := below_step hb4 (below_one (w := w4) (.cells #[.bool u1.f0, .string u1.f1, .slice A4 u1.f2.length c4] 24)); have hN4 := hN3.step hb4'; have BR4 := blk_below BR3 hb4'; have B6 := blk_new w4 (.cells #[.bool u1.f0, .string u1.f1, .slice A4 u1.f2.length c4] 24); have C4' := Kd.F_below C4 (below_one (w := w4) (.cells #[.bool u1.f0, .string u1.f1, .slice A4 u1.f2.length c4] 24)); obtain ⟨x0, x1, x2, x3, x4, x5, x6, _, hb⟩ := id hN4; obtain ⟨⟨e0, e1, e2, e3, e4, e5, e6⟩, f0, f1, f2, f3, f4, f5, f6⟩ := hel _ hb)
                  | (go_at_call 209; (with_reducible refine (hpl _ hS0.below).mono ?_); rintro e w3 ⟨rfl, hb3⟩; have hN3 := hS0.step hb3; have BR3 := blk_below BR hb3; obtain ⟨s0, s1, s2, s3, s4, s5, s6⟩ := box3s BR3; obtain ⟨x0, x1, x2, x3, x4, x5, x6, _, hb⟩ := id hN3; obtain ⟨⟨e0, e1, e2, e3, e4, e5, e6⟩, f0, f1, f2, f3, f4, f5, f6⟩ := hel _ hb))
                rw [HV.out] at m0
                rw [HL.out] at m2 C4''
                simp only [List.length_cons, List.length_nil] at m2 C4''
                rw [HL.out] at l4
                obtain ⟨ed, A9, c9, A10, c10, hed, hT9, ⟨l10, C10⟩, ⟨d0, d1, d2⟩, t0, t1, t2⟩ := ty_two C4'' l4
                subst hed
                generalize hW5 : w5.alloc (.cells #[.bool u2.f0, .string u2.f1, .slice A6 u2.f2.length c6] 24) = W5 at *
                have hT6 : Tr W5 (.agg #[.bool u2.f0, .string u2.f1, .slice A6 u2.f2.length c6]) u2 := ⟨A6, c6, rfl, l6, Kd.F_now C6'⟩
                have esm := fun W (hw : Below W5.heap.size W5 W) => same_tr p u2 _ _ W (hT9.tr.later hw) (hT6.later hw)
                rw [hcb] at esm
                have hst : ∀ W W', (W.cell? ⟨w4.heap.size, 0, none⟩ = some (.bool false) ∧ W.cell? ⟨w4.heap.size, 1, none⟩ = some (.string u1.f1) ∧ W.cell? ⟨w4.heap.size, 2, none⟩ = some (.slice (some ed) 2 c4) ∧ W.cell? ⟨w5.heap.size, 0, none⟩ = some (.bool u2.f0) ∧ W.cell? ⟨w5.heap.size, 1, none⟩ = some (.string u2.f1) ∧ W.cell? ⟨w5.heap.size, 2, none⟩ = some (.slice A6 u2.f2.length c6) ∧ W.cell? ed = some (.bool p.f0) ∧ W.cell? ⟨ed.block, ed.off + 1, none⟩ = some (.string p.f1) ∧ W.cell? ⟨ed.block, ed.off + 2, none⟩ = some (.slice A9 p.f2.length c9) ∧ Below W5.heap.size W5 W) → Below W.heap.size W W' → (W'.cell? ⟨w4.heap.size, 0, none⟩ = some (.bool false) ∧ W'.cell? ⟨w4.heap.size, 1, none⟩ = some (.string u1.f1) ∧ W'.cell? ⟨w4.heap.size, 2, none⟩ = some (.slice (some ed) 2 c4) ∧ W'.cell? ⟨w5.heap.size, 0, none⟩ = some (.bool u2.f0) ∧ W'.cell? ⟨w5.heap.size, 1, none⟩ = some (.string u2.f1) ∧ W'.cell? ⟨w5.heap.size, 2, none⟩ = some (.slice A6 u2.f2.length c6) ∧ W'.cell? ed = some (.bool p.f0) ∧ W'.cell? ⟨ed.block, ed.off + 1, none⟩ = some (.string p.f1) ∧ W'.cell? ⟨ed.block, ed.off + 2, none⟩ = some (.slice A9 p.f2.length c9) ∧ Below W5.heap.size W5 W') := fun W W' h hb => by obtain ⟨h0, h1, h2, h3, h4, h5, h6, h7, h8, h9⟩ := h; exact ⟨pw_cell_below hb h0, pw_cell_below hb h1, pw_cell_below hb h2, pw_cell_below hb h3, pw_cell_below hb h4, pw_cell_below hb h5, pw_cell_below hb h6, pw_cell_below hb h7, pw_cell_below hb h8, below_step h9 hb⟩
                have hK5 : (W5.cell? ⟨w4.heap.size, 0, none⟩ = some (.bool false) ∧ W5.cell? ⟨w4.heap.size, 1, none⟩ = some (.string u1.f1) ∧ W5.cell? ⟨w4.heap.size, 2, none⟩ = some (.slice (some ed) 2 c4) ∧ W5.cell? ⟨w5.heap.size, 0, none⟩ = some (.bool u2.f0) ∧ W5.cell? ⟨w5.heap.size, 1, none⟩ = some (.string u2.f1) ∧ W5.cell? ⟨w5.heap.size, 2, none⟩ = some (.slice A6 u2.f2.length c6) ∧ W5.cell? ed = some (.bool p.f0) ∧ W5.cell? ⟨ed.block, ed.off + 1, none⟩ = some (.string p.f1) ∧ W5.cell? ⟨ed.block, ed.off + 2, none⟩ = some (.slice A9 p.f2.length c9) ∧ Below W5.heap.size W5 W5) := ⟨m0, m1, m2, n0, n1, n2, d0, d1, d2, Below.refl _ _⟩
                have hK0 := hst _ _ hK5 (below_drew1 (Below.refl _ _))
                have esm2 := fun W (hw : (W.cell? ⟨w4.heap.size, 0, none⟩ = some (.bool false) ∧ W.cell? ⟨w4.heap.size, 1, none⟩ = some (.string u1.f1) ∧ W.cell? ⟨w4.heap.size, 2, none⟩ = some (.slice (some ed) 2 c4) ∧ W.cell? ⟨w5.heap.size, 0, none⟩ = some (.bool u2.f0) ∧ W.cell? ⟨w5.heap.size, 1, none⟩ = some (.string u2.f1) ∧ W.cell? ⟨w5.heap.size, 2, none⟩ = some (.slice A6 u2.f2.length c6) ∧ W.cell? ed = some (.bool p.f0) ∧ W.cell? ⟨ed.block, ed.off + 1, none⟩ = some (.string p.f1) ∧ W.cell? ⟨ed.block, ed.off + 2, none⟩ = some (.slice A9 p.f2.length c9) ∧ Below W5.heap.size W5 W)) => (esm W hw.2.2.2.2.2.2.2.2.2).mono (fun _ _ h => And.intro h.1 (hst _ _ hw h.2))
                go_region_held3 (fun W => (W.cell? ⟨w4.heap.size, 0, none⟩ = some (.bool false) ∧ W.cell? ⟨w4.heap.size, 1, none⟩ = some (.string u1.f1) ∧ W.cell? ⟨w4.heap.size, 2, none⟩ = some (.slice (some ed) 2 c4) ∧ W.cell? ⟨w5.heap.size, 0, none⟩ = some (.bool u2.f0) ∧ W.cell? ⟨w5.heap.size, 1, none⟩ = some (.string u2.f1) ∧ W.cell? ⟨w5.heap.size, 2, none⟩ = some (.slice A6 u2.f2.length c6) ∧ W.cell? ed = some (.bool p.f0) ∧ W.cell? ⟨ed.block, ed.off + 1, none⟩ = some (.string p.f1) ∧ W.cell? ⟨ed.block, ed.off + 2, none⟩ = some (.slice A9 p.f2.length c9) ∧ Below W5.heap.size W5 W)) (first | (with_reducible exact hK0) | (with_reducible assumption)) (first | (go_at_call 52; (with_reducible refine (esm2 _ (by with_reducible assumption)).mono ?_); rintro e w6 ⟨rfl, hN6⟩))
                have hB6 := hN6.2.2.2.2.2.2.2.2.2
                obtain ⟨s0, s1, s2, s3, s4, s5, s6⟩ := box3s (blk_below BR5 hB6)
                have BR6 := blk_below BR5 hB6
                have hb6 := below_step hN5.below hB6
                obtain ⟨r3, r4, r5, _⟩ := id hN6
                have t0 := pw_cell_below hB6 t0
                have t1 := pw_cell_below hB6 t1
                have t2 := pw_cell_below hB6 t2
                go_wp2_with fail
                have hz4 := hN4.below.size
                have hz3 := hN3.below.size
                have hne : ∀ k, (ok k ∨ w3.heap.size ≤ k) → k ≠ w.heap.size + 1 := fun k hk => hk.elim (fun h => by have := hok k h; omega) (fun h => by have := blk_lt BR3; omega)
                have hq6 : ∀ k, (ok k ∨ w3.heap.size ≤ k) → k < W5.heap.size → (((w6.setCell ⟨w.heap.size + 1, 0, none⟩ (.bool q.f0)).setCell ⟨w.heap.size + 1, 1, none⟩ (.string q.f1)).setCell ⟨w.heap.size + 1, 2, none⟩ (.slice A10 q.f2.length c10)).heap[k]? = W5.heap[k]? := fun k hk hlt => by rw [Below.heap_setCell _ _ _ k (hne k hk), Below.heap_setCell _ _ _ k (hne k hk), Below.heap_setCell _ _ _ k (hne k hk)]; exact hB6.block k hlt
                have hq7 : ∀ k, (ok k ∨ w3.heap.size ≤ k) → (ok k ∨ w.heap.size ≤ k) := fun k hk => hk.imp id (fun h => by omega)
                refine bodyPost_ret (results_ct rfl _ _ (w.heap.size + 1) 24 #[.bool q.f0, .string q.f1, .slice A10 q.f2.length c10] (0, 0) _ rfl (set3 BR6) Try.underlying24 rfl (by kernel_rfl)) rfl ?_
                exact ⟨_, q, by rw [HF.out]; rfl, ⟨A10, c10, rfl, l10, Kd.F_mono (Kd.F_step C10 hq6) (fun k hk => hq7 k hk)⟩, (fun v hv => by rw [HF.out] at hv; exact Option.some.inj hv), ((hb6.setCell (by simp) _).setCell (by simp) _).setCell (by simp) _⟩
            · have HF := Aside0.mk (show formM (⟨4, tn, tt, ti, [x, y]⟩ : S27) lo.reverse = none by rw [hF, formF_len hl])
              have l1 : decide (f.f2.length = 2) = false := decide_eq_false hl
              have l2 : ((f.f2.length : Int) != 2) = true := bne_iff_ne.mpr (by omega)
              have l3 : ((f.f2.length : Int) == 2) = false := beq_eq_false_iff_ne.mpr (by omega)
              have n1 : (f.f1.toList == [102, 117, 110]) = true := by rw [hn, funN_list]; rfl
              have n2 : (f.f1.toList != [102, 117, 110]) = false := by rw [bne, n1]; rfl
              have HV := Aside0.mk hv'
              clear hF hn hl hv hv'
              go_enter Try.func168, Try.ntmps168
              go_wp2_with (first
                | (go_at_call 168; (with_reducible refine (ihy _ hN4.below).mono ?_); rintro e w5 ⟨r2, u2, rfl, hT2, hu2, hb5⟩; (first | (have hu2' := hu2 _ rfl; subst hu2'; clear hu2) | clear hu2); obtain ⟨A6, c6, rfl, l6, C6⟩ := hT2; have hb5' := below_step hb5 (below_one (w := w5) (.cells #[.bool u2.f0, .string u2.f1, .slice A6 u2.f2.length c6] 24)); have hN5 := hN4.step hb5'; have BR5 := blk_below BR4 hb5'; have B6' := blk_below B6 hb5'; have B8 := blk_new w5 (.cells #[.bool u2.f0, .string u2.f1, .slice A6 u2.f2.length c6] 24); have C4'' := Kd.F_below C4' hb5'; have C6' := Kd.F_below C6 (below_one (w := w5) (.cells #[.bool u2.f0, .string u2.f1, .slice A6 u2.f2.length c6] 24)); obtain ⟨s0, s1, s2, s3, s4, s5, s6⟩ := box3s BR5; obtain ⟨m0, m1, m2, m3, m4, m5, m6⟩ := box3s B6'; obtain ⟨n0, n1, n2, n3, n4, n5, n6⟩ := box3s B8; obtain ⟨x0, x1, x2, x3, x4, x5, x6, _, hb⟩ := id hN5; obtain ⟨⟨e0, e1, e2, e3, e4, e5, e6⟩, f0, f1, f2, f3, f4, f5, f6⟩ := hel _ hb)
                | (go_at_call 168; (with_reducible refine (ihx _ hN3.below).mono ?_); rintro e w4 ⟨r1, u1, rfl, hT1, hu1, hb4⟩; (first | (have hu1' := hu1 _ rfl; subst hu1'; clear hu1) | clear hu1); obtain ⟨A4, c4, rfl, l4, C4⟩ := hT1; have hb4' := below_step hb4 (below_one (w := w4) (.cells #[.bool u1.f0, .string u1.f1, .slice A4 u1.f2.length c4] 24)); have hN4 := hN3.step hb4'; have BR4 := blk_below BR3 hb4'; have B6 := blk_new w4 (.cells #[.bool u1.f0, .string u1.f1, .slice A4 u1.f2.length c4] 24); have C4' := Kd.F_below C4 (below_one (w := w4) (.cells #[.bool u1.f0, .string u1.f1, .slice A4 u1.f2.length c4] 24)); obtain ⟨x0, x1, x2, x3, x4, x5, x6, _, hb⟩ := id hN4; obtain ⟨⟨e0, e1, e2, e3, e4, e5, e6⟩, f0, f1, f2, f3, f4, f5, f6⟩ := hel _ hb)
                | (go_at_call 209; (with_reducible refine (hpl _ hS0.below).mono ?_); rintro e w3 ⟨rfl, hb3⟩; have hN3 := hS0.step hb3; have BR3 := blk_below BR hb3; obtain ⟨s0, s1, s2, s3, s4, s5, s6⟩ := box3s BR3; obtain ⟨x0, x1, x2, x3, x4, x5, x6, _, hb⟩ := id hN3; obtain ⟨⟨e0, e1, e2, e3, e4, e5, e6⟩, f0, f1, f2, f3, f4, f5, f6⟩ := hel _ hb))
              rw [HV.out] at m0
              go_quiet (fail)
              go_wp2_with fail
              have BRq := blk_below BR5 (pw_below_drewN (Below.refl _ _) nq)
              have hbq := pw_below_drewN hb nq
              refine bodyPost_ret (results_ct rfl _ _ (w.heap.size + 1) 24 #[.bool false, .string ⟨#[]⟩, .slice none 0 0] (0, 0) _ rfl (set3 BRq) Try.underlying24 rfl (by kernel_rfl)) rfl ?_
              exact ⟨_, zT, by rw [HF.out]; rfl, TrF.leaf _ _ _ _, (fun v hv => by rw [HF.out] at hv; cases hv), ((hbq.setCell (by simp) _).setCell (by simp) _).setCell (by simp) _⟩
          · have HF := Aside0.mk (show formM (⟨4, tn, tt, ti, [x, y]⟩ : S27) lo.reverse = none by rw [hF, formF_name hn])
            have n1 : (f.f1.toList == [102, 117, 110]) = false := beq_eq_false_iff_ne.mpr (fun h => hn (by rw [h, funN_list]))
            have n2 : (f.f1.toList != [102, 117, 110]) = true := by rw [bne, n1]; rfl
            have n3 : decide (f.f1.toList = [102, 117, 110]) = false := decide_eq_false (beq_eq_false_iff_ne.1 n1)
            have HV := Aside0.mk hv'
            clear hF hn hv hv'
            go_enter Try.func168, Try.ntmps168
            go_wp2_with (first
              | (go_at_call 168; (with_reducible refine (ihy _ hN4.below).mono ?_); rintro e w5 ⟨r2, u2, rfl, hT2, hu2, hb5⟩; (first | (have hu2' := hu2 _ rfl; subst hu2'; clear hu2) | clear hu2); obtain ⟨A6, c6, rfl, l6, C6⟩ := hT2; have hb5' := below_step hb5 (below_one (w := w5) (.cells #[.bool u2.f0, .string u2.f1, .slice A6 u2.f2.length c6] 24)); have hN5 := hN4.step hb5'; have BR5 := blk_below BR4 hb5'; have B6' := blk_below B6 hb5'; have B8 := blk_new w5 (.cells #[.bool u2.f0, .string u2.f1, .slice A6 u2.f2.length c6] 24); have C4'' := Kd.F_below C4' hb5'; have C6' := Kd.F_below C6 (below_one (w := w5) (.cells #[.bool u2.f0, .string u2.f1, .slice A6 u2.f2.length c6] 24)); obtain ⟨s0, s1, s2, s3, s4, s5, s6⟩ := box3s BR5; obtain ⟨m0, m1, m2, m3, m4, m5, m6⟩ := box3s B6'; obtain ⟨n0, n1, n2, n3, n4, n5, n6⟩ := box3s B8; obtain ⟨x0, x1, x2, x3, x4, x5, x6, _, hb⟩ := id hN5; obtain ⟨⟨e0, e1, e2, e3, e4, e5, e6⟩, f0, f1, f2, f3, f4, f5, f6⟩ := hel _ hb)
              | (go_at_call 168; (with_reducible refine (ihx _ hN3.below).mono ?_); rintro e w4 ⟨r1, u1, rfl, hT1, hu1, hb4⟩; (first | (have hu1' := hu1 _ rfl; subst hu1'; clear hu1) | clear hu1); obtain ⟨A4, c4, rfl, l4, C4⟩ := hT1; have hb4' := below_step hb4 (below_one (w := w4) (.cells #[.bool u1.f0, .string u1.f1, .slice A4 u1.f2.length c4] 24)); have hN4 := hN3.step hb4'; have BR4 := blk_below BR3 hb4'; have B6 := blk_new w4 (.cells #[.bool u1.f0, .string u1.f1, .slice A4 u1.f2.length c4] 24); have C4' := Kd.F_below C4 (below_one (w := w4) (.cells #[.bool u1.f0, .string u1.f1, .slice A4 u1.f2.length c4] 24)); obtain ⟨x0, x1, x2, x3, x4, x5, x6, _, hb⟩ := id hN4; obtain ⟨⟨e0, e1, e2, e3, e4, e5, e6⟩, f0, f1, f2, f3, f4, f5, f6⟩ := hel _ hb)
              | (go_at_call 209; (with_reducible refine (hpl _ hS0.below).mono ?_); rintro e w3 ⟨rfl, hb3⟩; have hN3 := hS0.step hb3; have BR3 := blk_below BR hb3; obtain ⟨s0, s1, s2, s3, s4, s5, s6⟩ := box3s BR3; obtain ⟨x0, x1, x2, x3, x4, x5, x6, _, hb⟩ := id hN3; obtain ⟨⟨e0, e1, e2, e3, e4, e5, e6⟩, f0, f1, f2, f3, f4, f5, f6⟩ := hel _ hb))
            rw [HV.out] at m0
            go_quiet (fail)
            go_wp2_with fail
            have BRq := blk_below BR5 (pw_below_drewN (Below.refl _ _) nq)
            have hbq := pw_below_drewN hb nq
            refine bodyPost_ret (results_ct rfl _ _ (w.heap.size + 1) 24 #[.bool false, .string ⟨#[]⟩, .slice none 0 0] (0, 0) _ rfl (set3 BRq) Try.underlying24 rfl (by kernel_rfl)) rfl ?_
            exact ⟨_, zT, by rw [HF.out]; rfl, TrF.leaf _ _ _ _, (fun v hv => by rw [HF.out] at hv; cases hv), ((hbq.setCell (by simp) _).setCell (by simp) _).setCell (by simp) _⟩
end Go.Proofs.Ytecplbgdalchdaa.Q
/- Proved here: the row of types about a term, one type longer. Conditions: those that each theorem names. -/
namespace Go.Proofs.Ytecplbgdalchdaa.Q
open Go.RowKit Go.Shelf Go.Proofs.YtecplbgdalchdaaW.PrintWords Go.Proofs.YtecplbgdalchdaaW.PrintMore
set_option linter.unusedVariables false
set_option linter.unusedSimpArgs false

theorem env_take {V : World} {ok : Nat → Prop} {ad : Addr} {ce : Nat} {lo : List S24} (h : Kd.V k24 24 V 0 ok (.slice (some ad) lo.length ce) lo) : ∀ m, m ≤ lo.length → ∃ inner : List Value, (∀ j u, inner[j]? = some u → V.cell? (ad.add j) = some u) ∧ Reps (Kd.FK k24 V ok) 3 (lo.take m) inner
  | 0, _ => ⟨[], fun j u hu => by simp at hu, Reps.none _ _⟩
  | m + 1, hm => by
    obtain ⟨inner, h1, h2⟩ := env_take h m (by omega)
    obtain ⟨cs, hcl, hK, hcc⟩ := Kd.V_get h z24 (m : Int) (by omega) (by omega)
    rw [Int.toNat_natCast] at hK hcc
    have hl : inner.length = m * 3 := by rw [h2.1, List.length_take, Nat.min_eq_left (by omega)]
    refine ⟨inner ++ cs, fun j u hu => ?_, ?_⟩
    · rcases Nat.lt_or_ge j inner.length with hj | hj
      · rw [List.getElem?_append_left hj] at hu
        exact h1 j u hu
      · rw [List.getElem?_append_right hj] at hu
        have := hcc (j - inner.length) u hu
        rw [show k24.sz = 3 from rfl, ← hl, Nat.add_sub_cancel' hj] at this
        exact this
    · rw [take_rd lo z24 m (by omega)]
      exact h2.snoc hK hcl
theorem env_cells {V : World} {ok : Nat → Prop} {E : Option Addr} {ce : Nat} {lo : List S24} (h : Kd.F k24 V ok E lo.length lo) (hce : lo.length ≤ ce) :
    ∃ inner : List Value, (∀ b, E = some b → ∀ j u, inner[j]? = some u → V.cell? (b.add j) = some u) ∧ (E = none → lo.length = 0) ∧ Reps (Kd.FK k24 V ok) 3 lo inner := by
  cases E with
  | none =>
    have h0 : lo.length = 0 := by
      rcases Nat.eq_zero_or_pos lo.length with h0 | h0
      · exact h0
      · obtain ⟨ad, he, _⟩ := (Kd.F_now h).2.2 h0
        cases he
    obtain rfl := List.length_eq_zero_iff.1 h0
    exact ⟨[], (fun b hb => by cases hb), fun _ => rfl, Reps.none _ _⟩
  | some ad =>
    obtain ⟨inner, h1, h2⟩ := env_take (Kd.V_mk (e := 24) (base := 0) hce h) lo.length (Nat.le_refl _)
    rw [List.take_length] at h2
    exact ⟨inner, (fun b hb => by cases hb; exact h1), (fun hb => by cases hb), h2⟩
theorem env_after {V W w1 : World} {ok : Nat → Prop} {lo : List S24} {ty : S24} {A : Option Addr} {c : Nat} {inner : List Value} {v1 : Value} (hown : w1.ownsRow W.heap.size 24 3 v1 (lo.length + 1) (inner ++ [.bool ty.f0, .string ty.f1, .slice A ty.f2.length c]))
    (hR : Reps (Kd.FK k24 V ok) 3 lo inner) (hA : Kd.F k24 V ok A ty.f2.length ty.f2) (hc : ty.f2.length ≤ c) (hm : ∀ k, ok k → k < V.heap.size → w1.heap[k]? = V.heap[k]?) :
    ∃ g1 cap1, v1 = .slice (some ⟨g1, 0, none⟩) (lo.length + 1) cap1 ∧ lo.length + 1 ≤ cap1 ∧ g1 < w1.heap.size ∧ W.heap.size ≤ g1 ∧ Kd.F k24 w1 (fun k => ok k ∨ k = g1) (some ⟨g1, 0, none⟩) (lo.length + 1) (lo ++ [ty]) := by
  obtain ⟨hlen, h2⟩ := hown
  rcases h2 with ⟨_, h2⟩ | ⟨g, cap, cur, rfl, hg, hb, hl, hmx, hz, ht⟩
  · omega
  refine ⟨g, cap, rfl, hl, blk_lt hb, hg, fun W' hW' => ?_⟩
  have hRF : Reps (fun (x : S24) cs => k24.K W' x cs) 3 (lo ++ [ty]) (inner ++ [.bool ty.f0, .string ty.f1, .slice A ty.f2.length c]) := by
    refine Reps.imp_ (Reps.snoc hR (k24_mkF V ok ty hc hA) rfl) (fun p cs hp => ?_)
    exact Kd.FK_now (Kd.FK_step (Kd.FK_mono (Kd.FK_step hp hm) (fun k hk => .inl hk)) hW')
  have hown' : W'.ownsRow W.heap.size 24 3 (.slice (some ⟨g, 0, none⟩) (lo.length + 1) cap) (lo.length + 1) (inner ++ [.bool ty.f0, .string ty.f1, .slice A ty.f2.length c]) :=
    ⟨hlen, .inr ⟨g, cap, cur, rfl, hg, (hW' g (.inr rfl) (blk_lt hb)).trans hb, hl, hmx, hz, ht⟩⟩
  obtain ⟨A', c', he, hC⟩ := own_reads_row hown' hRF (by simp)
  injection he with e1 e2 e3
  rw [e1]
  exact hC
theorem cells3 {W : World} {g : Nat} {t : TypeId} {a b c : Value} (h : W.heap[g]? = some (.cells #[a, b, c] t (0, 0))) : ∀ j u, ([a, b, c] : List Value)[j]? = some u → W.cell? ((⟨g, 0, none⟩ : Addr).add j) = some u := fun j u hu => by
  rw [add_zero_spot, blk_cell h]
  match j, hu with
  | 0, hu => exact hu
  | 1, hu => exact hu
  | 2, hu => exact hu
  | j + 3, hu => simp at hu
/-- Two types as a row. -/
theorem lit_TY2 {W : World} {ok : Nat → Prop} {g : Nat} {x y : S24} {A B : Option Addr} {c d : Nat} (hB : W.heap[g]? = some (.cells #[.bool x.f0, .string x.f1, .slice A x.f2.length c, .bool y.f0, .string y.f1, .slice B y.f2.length d] 24 (0, 0))) (hg : ok g) (hx : Kd.F k24 W ok A x.f2.length x.f2 ∧ x.f2.length ≤ c) (hy : Kd.F k24 W ok B y.f2.length y.f2 ∧ y.f2.length ≤ d) :
    Kd.F k24 W ok (some ⟨g, 0, none⟩) ([x, y] : List S24).length [x, y] := fun W' hW' => by
  have hB' := (hW' g hg (blk_lt hB)).trans hB
  have h1 := Kd.F_now (Kd.F_step hx.1 hW')
  have h2 := Kd.F_now (Kd.F_step hy.1 hW')
  refine ⟨rfl, by simp, fun _ => ⟨_, rfl, fun n p hn => ?_⟩⟩
  match n, hn with
  | 0, hn =>
    simp only [List.getElem?_cons_zero, Option.some.injEq] at hn
    subst hn
    refine ⟨[.bool x.f0, .string x.f1, .slice A x.f2.length c], rfl, k24_mk _ x hx.2 h1, fun m u hu => ?_⟩
    match m, hu with
    | 0, hu => exact (blk_cell hB' 0).trans hu
    | 1, hu => exact (blk_cell hB' 1).trans hu
    | 2, hu => exact (blk_cell hB' 2).trans hu
    | m + 3, hu => simp at hu
  | 1, hn =>
    simp only [List.getElem?_cons_succ, List.getElem?_cons_zero, Option.some.injEq] at hn
    subst hn
    refine ⟨[.bool y.f0, .string y.f1, .slice B y.f2.length d], rfl, k24_mk _ y hy.2 h2, fun m u hu => ?_⟩
    match m, hu with
    | 0, hu => exact (blk_cell hB' 3).trans hu
    | 1, hu => exact (blk_cell hB' 4).trans hu
    | 2, hu => exact (blk_cell hB' 5).trans hu
    | m + 3, hu => simp at hu
  | n + 2, hn => simp at hn
end Go.Proofs.Ytecplbgdalchdaa.Q
/- Proved here: what the reference's Exact answers in the end. Conditions: those that each theorem names. -/
namespace Go.Proofs.Ytecplbgdalchdaa.Q
open Go.RowKit Go.Shelf Go.Proofs.YtecplbgdalchdaaW.PrintWords Go.Proofs.YtecplbgdalchdaaW.PrintMore
set_option linter.unusedVariables false
set_option linter.unusedSimpArgs false

theorem exML_cons {l m : List S27} {j : Nat} (hj : j < l.length) (hm : j < m.length) : exML (l.drop j) (m.drop j) = (exM l[j] m[j] && exML (l.drop (j + 1)) (m.drop (j + 1))) := by
  rw [List.drop_eq_getElem_cons hj, List.drop_eq_getElem_cons hm]
  rfl
theorem rexact_ev (x : S27) : fitM x → ∀ y : S27, Ev (fun k => sequentref02_Exact.f k x.f0 x.f1 x.f2.f0 x.f2.f1 x.f2.f2 x.f3 x.f4 y.f0 y.f1 y.f2.f0 y.f2.f1 y.f2.f2 y.f3 y.f4) (exM x y) := by
  induction x using M_ind with
  | _ x ih =>
  intro hf y
  have hl := szML_len x.f4
  have hs := szM_eq x
  have hs2 := hf.2
  have ht : szT x.f2 ≤ 4611686018427387904 := (allM_top hf.1).2.1.1
  have hF : Ev (fun k => sequentref02_Exact.j0 k true x.f0 x.f1 x.f2.f0 x.f2.f1 x.f2.f2 x.f3 x.f4 y.f0 y.f1 y.f2.f0 y.f2.f1 y.f2.f2 y.f3 y.f4) false := by
    refine Ev.succ ?_
    simp only [sequentref02_Exact.j0]
    exact Ev.pos trivial (Ev.pure _)
  rw [exM_eq]
  unfold headX
  refine Ev.succ ?_
  simp only [sequentref02_Exact.f]
  refine Ev.ite (fun e0 => ?_) (fun e0 => hF.val (by rw [beq_eq_false_iff_ne.mpr e0]; rfl))
  rw [beq_iff_eq.mpr e0]
  refine Ev.ite (fun e1 => ?_) (fun e1 => hF.val (by rw [beq_eq_false_iff_ne.mpr e1]; rfl))
  rw [beq_iff_eq.mpr e1]
  refine Ev.bind (same_ev x.f2 y.f2 ht) (Ev.ite (fun e2 => ?_) (fun e2 => hF.val (by rw [Bool.eq_false_iff.mpr e2]; rfl)))
  rw [e2]
  refine Ev.ite (fun e3 => ?_) (fun e3 => hF.val (by rw [beq_eq_false_iff_ne.mpr e3]; rfl))
  rw [beq_iff_eq.mpr e3]
  refine Ev.succ ?_
  simp only [sequentref02_Exact.j0]
  refine Ev.ite (fun e4 => (Ev.pure _).val ?_) (fun e4 => ?_)
  · have hne : ¬ x.f4.length = y.f4.length := by
      have := bne_iff_ne.mp e4
      omega
    rw [beq_eq_false_iff_ne.mpr hne]
    rfl
  · have hlen : x.f4.length = y.f4.length := by
      rw [Bool.not_eq_true] at e4
      have := bne_eq_false_iff_eq.mp e4
      omega
    rw [beq_iff_eq.mpr hlen]
    show Ev _ (exML x.f4 y.f4)
    refine down (fun j => Ev (fun k => sequentref02_Exact.l0 k (j : Int) x.f0 x.f1 x.f2.f0 x.f2.f1 x.f2.f2 x.f3 x.f4 y.f0 y.f1 y.f2.f0 y.f2.f1 y.f2.f2 y.f3 y.f4) (exML (x.f4.drop j) (y.f4.drop j))) x.f4.length ?_ ?_
    · refine Ev.succ ?_
      simp only [sequentref02_Exact.l0]
      refine Ev.neg (by omega) ((Ev.pure _).val ?_)
      rw [List.drop_length]
      rfl
    · intro j hj h
      refine Ev.succ ?_
      simp only [sequentref02_Exact.l0]
      refine Ev.pos (by omega) (Ev.pos (by omega) (Ev.pos (by omega) ?_))
      rw [rdM x.f4 j hj, rdM y.f4 j (by omega)]
      refine Ev.bind (ih _ (List.getElem_mem hj) (fitM_sub hf (List.getElem_mem hj)) _) ?_
      rw [exML_cons hj (by omega), w64s (by omega)]
      refine Ev.ite (fun e5 => ?_) (fun e5 => (Ev.pure _).val ?_)
      · rw [e5]
        exact h
      · rw [Bool.eq_false_iff.mpr e5]
        rfl
end Go.Proofs.Ytecplbgdalchdaa.Q
/- Proved here: what the reference's Size, Depth, Small, count and Great of terms answer in the end. Conditions: those that each theorem names. -/
namespace Go.Proofs.Ytecplbgdalchdaa.Q
open Go.RowKit Go.Shelf Go.Proofs.YtecplbgdalchdaaW.PrintWords Go.Proofs.YtecplbgdalchdaaW.PrintMore
set_option linter.unusedVariables false
set_option linter.unusedSimpArgs false

theorem rsizeM_ev (t : S27) : szM t ≤ 4611686018427387904 → Ev (fun k => sequentref02_Size.f k t.f0 t.f1 t.f2.f0 t.f2.f1 t.f2.f2 t.f3 t.f4) (szM t : Int) := by
  induction t using M_ind with
  | _ t ih =>
  intro hb
  rw [szM_eq] at hb
  rw [szM_eq]
  refine Ev.succ ?_
  simp only [sequentref02_Size.f]
  have hl := szML_len t.f4
  refine Ev.cong (down (fun j => Ev (fun k => sequentref02_Size.l0 k ((1 + szML (t.f4.take j) : Nat) : Int) (j : Int) t.f0 t.f1 t.f2.f0 t.f2.f1 t.f2.f2 t.f3 t.f4) (((szML t.f4 + 1 : Nat) : Int))) t.f4.length ?_ ?_) (fun k => by simp [szML])
  · refine Ev.succ ?_
    simp only [sequentref02_Size.l0, List.take_length]
    exact Ev.neg (by omega) ((Ev.pure _).val (by omega))
  · intro j hj h
    refine Ev.succ ?_
    have hle := szML_le t.f4 j hj
    simp only [sequentref02_Size.l0]
    refine Ev.pos (by omega) (Ev.pos (by omega) ?_)
    rw [rdM t.f4 j hj]
    refine Ev.bind (ih _ (List.getElem_mem hj) (by omega)) ?_
    rw [w64s (by omega), w64 (by omega) (by omega)]
    rw [szML_take t.f4 j hj] at h
    exact h.cong (fun k => by congr 1; omega)
theorem rdepthM_ev (t : S27) : szM t ≤ 4611686018427387904 → Ev (fun k => sequentref02_Depth.f k t.f0 t.f1 t.f2.f0 t.f2.f1 t.f2.f2 t.f3 t.f4) (dpM t : Int) := by
  induction t using M_ind with
  | _ t ih =>
  intro hb
  have hd := dpM_le t
  rw [szM_eq] at hb hd
  rw [dpM_eq] at hd
  rw [dpM_eq]
  refine Ev.succ ?_
  simp only [sequentref02_Depth.f]
  have hl := szML_len t.f4
  refine Ev.cong (down (fun j => Ev (fun k => sequentref02_Depth.l0 k ((dpML (t.f4.take j) : Nat) : Int) (j : Int) t.f0 t.f1 t.f2.f0 t.f2.f1 t.f2.f2 t.f3 t.f4) (((dpML t.f4 + 1 : Nat) : Int))) t.f4.length ?_ ?_) (fun k => by simp [dpML])
  · refine Ev.succ ?_
    simp only [sequentref02_Depth.l0, List.take_length]
    refine Ev.neg (by omega) ((Ev.pure _).val ?_)
    rw [w64 (by omega) (by omega)]
    omega
  · intro j hj h
    refine Ev.succ ?_
    have hle := szML_le t.f4 j hj
    simp only [sequentref02_Depth.l0]
    refine Ev.pos (by omega) (Ev.pos (by omega) ?_)
    rw [rdM t.f4 j hj]
    refine Ev.bind (ih _ (List.getElem_mem hj) (by omega)) ?_
    rw [w64s (by omega), mx_nat]
    rw [dpML_take t.f4 j hj] at h
    exact h
theorem rsmallM_ev (t : S27) (h : szM t ≤ 4611686018427387904) : Ev (fun k => sequentref02_Small.f k t.f0 t.f1 t.f2.f0 t.f2.f1 t.f2.f2 t.f3 t.f4) (!bigM t) := by
  simp only [sequentref02_Small.f]
  refine Ev.bind (rsizeM_ev t h) (Ev.ite (fun e => Ev.bind (rdepthM_ev t h) ((Ev.pure _).val ?_)) (fun e => (Ev.pure _).val ?_))
  · unfold bigM
    rw [decide_eq_false (show ¬ 32000 < szM t by omega), Bool.false_or, ← decide_not]
    exact decide_eq_decide.2 (by omega)
  · unfold bigM
    rw [decide_eq_true (show 32000 < szM t by omega)]
    rfl
/-! ### Great -/
mutual
def cntM : S27 → Int → Nat → Int
  | ⟨_, n, ty, _, l⟩, left, d => match d with | 0 => 0 | d + 1 => if greatB ty = true then 0 else cntML l (left - 1 - (n.size : Int) / 100) d
def cntML : List S27 → Int → Nat → Int
  | [], left, _ => left
  | a :: l, left, d => if left > 0 then cntML l (cntM a left d) d else left
end
mutual
theorem cntM_bd : ∀ (t : S27) (left : Int) (d : Nat), left ≤ 40000 → 0 < left → cntM t left d ≤ 40000 ∧ (0 < cntM t left d → cntM t left d + szM t ≤ left ∧ allM (fun x => greatB x.f2 = false) t)
  | ⟨v, n, ty, i, l⟩, left, d, h1, h2 => by
    cases d with
    | zero => simp [cntM]
    | succ d =>
      simp only [cntM, szM, allM]
      by_cases hg : greatB ty = true
      · rw [if_pos hg]; exact ⟨by omega, fun h => by omega⟩
      · rw [if_neg hg]
        have := cntML_bd l (left - 1 - (n.size : Int) / 100) d (by omega)
        refine ⟨this.1, fun h => ?_⟩
        have h3 := this.2 h
        exact ⟨by omega, by simpa using hg, h3.2⟩
theorem cntML_bd : ∀ (l : List S27) (left : Int) (d : Nat), left ≤ 40000 → cntML l left d ≤ 40000 ∧ (0 < cntML l left d → cntML l left d + szML l ≤ left ∧ allML (fun x => greatB x.f2 = false) l)
  | [], left, d, h1 => by simp [cntML, szML, allML]; omega
  | a :: l, left, d, h1 => by
    simp only [cntML, szML, allML]
    split
    · rename_i h
      have h3 := cntM_bd a left d h1 h
      have h4 := cntML_bd l (cntM a left d) d h3.1
      refine ⟨h4.1, fun h5 => ?_⟩
      have h6 := h4.2 h5
      have h7 := h3.2 (by omega)
      exact ⟨by omega, h7.2, h6.2⟩
    · rename_i h; exact ⟨by omega, fun h5 => by omega⟩
end
theorem wdM_sub {t x : S27} (h : wdM t) (hx : x ∈ t.f4) : wdM x := allM_sub h hx
mutual
theorem cntM_lo : ∀ (t : S27) (left : Int) (d : Nat), wdM t → 0 < left → left ≤ 40000 → -461168601842738790 ≤ cntM t left d
  | ⟨v, n, ty, i, l⟩, left, d, hf, h1, h2 => by
    cases d with
    | zero => simp [cntM]
    | succ d =>
      simp only [cntM]
      have hn : n.size ≤ 4611686018427387904 := (allM_top hf).1
      split
      · omega
      · exact cntML_lo l _ d (fun x hx => wdM_sub (t := ⟨v, n, ty, i, l⟩) hf hx) (by omega) (by omega)
theorem cntML_lo : ∀ (l : List S27) (left : Int) (d : Nat), (∀ x, x ∈ l → wdM x) → left ≤ 40000 → -461168601842738790 ≤ left → -461168601842738790 ≤ cntML l left d
  | [], left, d, _, _, h => h
  | a :: l, left, d, hf, h1, h => by
    simp only [cntML]
    split
    · rename_i hp
      have h3 := cntM_lo a left d (hf a (List.mem_cons_self ..)) hp h1
      have h4 := (cntM_bd a left d h1 hp).1
      exact cntML_lo l _ d (fun x hx => hf x (List.mem_cons_of_mem _ hx)) h4 h3
    · exact h
end
theorem countM_ev (t : S27) : wdM t → ∀ (left : Int) (d : Nat), 0 < left → left ≤ 40000 → d ≤ 500 → Ev (fun k => sequentref02_count.f k t.f0 t.f1 t.f2.f0 t.f2.f1 t.f2.f2 t.f3 t.f4 left (d : Int)) (cntM t left d) := by
  induction t using M_ind with
  | _ t ih =>
    intro hf left d h1 h2 hd
    have hl : t.f4.length ≤ 4611686018427387904 := (allM_top hf).2.2.1
    have hn : t.f1.size ≤ 4611686018427387904 := (allM_top hf).1
    refine Ev.succ ?_
    simp only [sequentref02_count.f]
    cases d with
    | zero =>
      refine Ev.pos rfl (Ev.succ ?_)
      simp only [sequentref02_count.j0]
      refine Ev.pos trivial ((Ev.pure _).val ?_)
      cases t; simp [cntM]
    | succ d =>
      refine Ev.neg (by omega) (Ev.bind (great_ev t.f2 (allM_top hf).2.1) (Ev.succ ?_))
      simp only [sequentref02_count.j0]
      have hv : cntM t left (d + 1) = if greatB t.f2 = true then 0 else cntML t.f4 (left - 1 - (t.f1.size : Int) / 100) d := by cases t; simp [cntM]
      rw [hv]
      refine Ev.ite (fun e => (Ev.pure _).val (by rw [if_pos e])) (fun e => ?_)
      rw [if_neg e, w64 (x := left - 1) (by omega) (by omega), w64 (x := (t.f1.size : Int) / 100) (by omega) (by omega), w64 (by omega) (by omega)]
      have hloop : ∀ (m j : Nat), j + m = t.f4.length → ∀ left : Int, left ≤ 40000 → -461168601842738790 ≤ left → Ev (fun k => sequentref02_count.l0 k left ((d + 1 : Nat) : Int) (j : Int) t.f0 t.f1 t.f2.f0 t.f2.f1 t.f2.f2 t.f3 t.f4) (cntML (t.f4.drop j) left d) := by
        intro m
        induction m with
        | zero =>
          intro j hj left _ _
          refine Ev.succ ?_
          simp only [sequentref02_count.l0]
          refine Ev.neg (by omega) ((Ev.pure _).val ?_)
          rw [List.drop_of_length_le (by omega)]
          rfl
        | succ m ihm =>
          intro j hj left h3 h4
          have hjl : j < t.f4.length := by omega
          refine Ev.succ ?_
          simp only [sequentref02_count.l0]
          rw [List.drop_eq_getElem_cons hjl, cntML]
          refine Ev.pos (by omega) (Ev.ite (fun e => Ev.pos (by omega) ?_) (fun e => (Ev.pure _).val (by rw [if_neg e])))
          rw [rdM t.f4 j hjl, w64 (x := ((d + 1 : Nat) : Int) - 1) (by omega) (by omega), show ((d + 1 : Nat) : Int) - 1 = (d : Int) by omega, if_pos e]
          have hfx := wdM_sub hf (List.getElem_mem hjl)
          refine Ev.bind (ih _ (List.getElem_mem hjl) hfx left d e h3 (by omega)) ?_
          rw [w64s (by omega)]
          exact ihm (j + 1) (by omega) _ (cntM_bd _ left d h3 e).1 (cntM_lo _ left d hfx e h3)
      exact hloop t.f4.length 0 (by omega) _ (by omega) (by omega)
def grtM (t : S27) : Bool := if cntM t 2000 400 > 0 then false else if cntM t 40000 400 ≤ 0 then true else !bigM t
theorem rgreatM_ev (t : S27) (hf : wdM t) : Ev (fun k => sequentref02_Great.f k t.f0 t.f1 t.f2.f0 t.f2.f1 t.f2.f2 t.f3 t.f4) (grtM t) := by
  simp only [sequentref02_Great.f]
  unfold grtM
  refine Ev.bind (countM_ev t hf 2000 400 (by omega) (by omega) (by omega)) (Ev.ite (fun e => (Ev.pure _).val (by rw [if_pos e])) (fun e => ?_))
  rw [if_neg e]
  refine Ev.bind (countM_ev t hf 40000 400 (by omega) (by omega) (by omega)) (Ev.ite (fun e => (Ev.pure _).val (by rw [if_pos e])) (fun e => ?_))
  rw [if_neg e]
  have h := ((cntM_bd t 40000 400 (by omega) (by omega)).2 (by omega)).1
  exact Ev.bind (rsmallM_ev t (by omega)) (Ev.pure _)
/-- What is not great fits. -/
theorem grtM_fit {t : S27} (hw : wdM t) (h : grtM t = false) : fitM t ∧ szM t ≤ 40000 ∧ allM (fun x => szT x.f2 ≤ 1500) t := by
  have key : szM t ≤ 40000 ∧ allM (fun x => greatB x.f2 = false) t := by
    unfold grtM at h
    by_cases h1 : cntM t 2000 400 > 0
    · have := (cntM_bd t 2000 400 (by omega) (by omega)).2 (by omega)
      exact ⟨by omega, this.2⟩
    · rw [if_neg h1] at h
      by_cases h2 : cntM t 40000 400 ≤ 0
      · rw [if_pos h2] at h; cases h
      · have := (cntM_bd t 40000 400 (by omega) (by omega)).2 (by omega)
        exact ⟨by omega, this.2⟩
  have hs : allM (fun x => szT x.f2 ≤ 1500) t := allM_imp (fun x hx => greatB_sz hx) t key.2
  refine ⟨⟨?_, by omega⟩, key.1, hs⟩
  exact allM_imp (fun x hx => ⟨hx.1.1, fit_of_wd hx.1.2.1 (by have := hx.2; omega), by have := hx.2; omega, hx.1.2.2.2⟩) t (allM_and t hw hs)
end Go.Proofs.Ytecplbgdalchdaa.Q
