/- Proved here: the contract of types.Match. Conditions: those that each theorem names. -/
import Derived.Test.YtgnklkmifcmlhaaHMatch
import Derived.Test.YtgnklkmifcmlhaaHOk
namespace Go.Proofs.Ytgnklkmifcmlhaa.Q
open Go.RowKit Go.Shelf Go.Proofs.YtgnklkmifcmlhaaW.PrintWords Go.Proofs.YtgnklkmifcmlhaaW.PrintMore
set_option linter.unusedVariables false
set_option linter.unusedSimpArgs false
attribute [local go_sem] Oper.semAt_some

/-! ### Match -/
def matchF (p t : S25) (s : List S59) : List S59 × Bool × Int :=
  if (chkB p && chkB t && vldB s) = true then (match mtT p t s with | some l => (l, true, 0) | none => ([], false, 0)) else ([], false, 10)
def MatchRes (w : World) (r : List S59 × Bool × Int) (e : Ending) (w' : World) : Prop :=
  ∃ A c, e = .returned (.tuple #[.slice A r.1.length c, .bool r.2.1, .int .i64 r.2.2]) ∧ r.1.length ≤ c ∧ k59.C w' A r.1.length r.1 ∧ Below w.heap.size w w'

def MatchRow (w : World) (r : List S59 × Bool × Int) (e : Ending) (w' : World) : Prop :=
  ∃ v, e = .returned (.tuple #[v, .bool r.2.1, .int .i64 r.2.2]) ∧ RowB w' w.heap.size v r.1 ∧ Below w.heap.size w w'
theorem box4c {w : World} {g : Nat} {t : TypeId} {a b c d : Value} (h : w.heap[g]? = some (.cells #[a, b, c, d] t (0, 0))) : w.cell? ⟨g, 0, none⟩ = some a ∧ w.cell? ⟨g, 1, none⟩ = some b ∧ w.cell? ⟨g, 2, none⟩ = some c ∧ w.cell? ⟨g, 3, none⟩ = some d :=
  ⟨(blk_cell h 0).trans rfl, (blk_cell h 1).trans rfl, (blk_cell h 2).trans rfl, (blk_cell h 3).trans rfl⟩
set_option maxHeartbeats 2000000 in
set_option maxRecDepth 100000 in
theorem match_row (p t : S25) (s : List S59) (A : Option Addr) (c : Nat) (B : Option Addr) (d : Nat) (D : Option Addr) (f : Nat) (w : World) (hA : k25.C w A p.f2.length p.f2) (hB : k25.C w B t.f2.length t.f2) (hc : p.f2.length ≤ c) (hd : t.f2.length ≤ d)
    (hD : k59.C w D s.length s) (hf : s.length ≤ f) (hfp : fit p) (hft : fit t) (hfs : ∀ b, b ∈ s → fitB b) (hsl : s.length ≤ 500000) :
    Calls Try.prog 20 #[.agg #[.bool p.f0, .string p.f1, .slice A p.f2.length c], .agg #[.bool t.f0, .string t.f1, .slice B t.f2.length d], .slice D s.length f] w (MatchRow w (matchF p t s)) := by
  obtain ⟨kp, hkp⟩ := (check_ev p hfp).at
  obtain ⟨kt, hkt⟩ := (check_ev t hft).at
  obtain ⟨kv, hkv⟩ := (valid_f_ev s hfs).at
  have h28p := fun W (hw : Below w.heap.size w W) => types_Check.calls kp p.f0 p.f1 A c p.f2 _ W (Kd.C_below hA hw) hc hkp
  have h28t := fun W (hw : Below w.heap.size w W) => types_Check.calls kt t.f0 t.f1 B d t.f2 _ W (Kd.C_below hB hw) hd hkt
  have h57 := fun W (hw : Below w.heap.size w W) => types_valid.calls kv D f s _ W (Kd.C_below hD hw) hf hkv
  have hb0 := below_two (w := w) (.cells #[.bool p.f0, .string p.f1, .slice A p.f2.length c] 25) (.cells #[.bool t.f0, .string t.f1, .slice B t.f2.length d] 25)
  have B3 := blk_mid (w := w) (.cells #[.bool p.f0, .string p.f1, .slice A p.f2.length c] 25) (.cells #[.bool t.f0, .string t.f1, .slice B t.f2.length d] 25)
  have B4 := blk_top (w := w) (.cells #[.bool p.f0, .string p.f1, .slice A p.f2.length c] 25) (.cells #[.bool t.f0, .string t.f1, .slice B t.f2.length d] 25)
  have hbad : ∀ W', Below w.heap.size w W' → MatchRow w ([], false, 10) (.returned (.tuple #[.slice none 0 0, .bool false, .int .i64 10])) W' := fun W' h => ⟨_, rfl, RowB.nil _ _, h⟩
  clear hkp hkt hkv
  unfold matchF
  by_cases hok : (chkB p && chkB t && vldB s) = true
  · rw [if_pos hok]
    rw [Bool.and_eq_true, Bool.and_eq_true] at hok
    rw [if_pos hok.1.1] at h28p
    rw [if_pos hok.1.2] at h28t
    rw [hok.2] at h57
    obtain ⟨hshp, hszp, _⟩ := chkB_sh hok.1.1
    obtain ⟨hsht, hszt, _⟩ := chkB_sh hok.1.2
    have hsb : ∀ b, b ∈ s → szT b.f1 ≤ 500 := fun b hb => (chkB_sh (vldB_mem hok.2 hb).2).2.1
    have h66 := fun s' v W (hw : Below w.heap.size w W) (hv : RowB W w.heap.size v s') (hl : s'.length + szT p ≤ 1000000) => match_calls w (szT p) p t s' A c B d v W (Nat.le_refl _) hA hB hc hd hw hv hl (by omega)
    have hmk : ∀ W : World, (Instr.makeSlice 22 (.int .i64 0) (.int .i64 ((s.length : Int) + 1))).run Try.prog W = .ok (.slice (some ⟨W.heap.size, 0, none⟩) 0 (s.length + 1)) (W.alloc (.cells (madeCells #[.string ⟨#[]⟩, .bool false, .string ⟨#[]⟩, .slice none 0 0] ((s.length + 1) * 4)) 59)) := by
      intro W
      obtain ⟨i0, hi, hz0, hz1, hz2⟩ := info_parts info59
      have h := run_make (P := Try.prog) W 22 59 i0 _ Try.underlying22 hi hz0 .i64 .i64 0 ((s.length : Int) + 1) (by omega) (by omega) (by rw [hz2]; omega) (by omega)
      rw [hz1] at h
      exact h
    have HD := Aside0.mk hD
    have HSB := Aside0.mk hsb
    clear hbad hok hA hB hfp hft hfs hsb hD
    generalize hm : mtT p t s = o
    have HM := Lib.hid hm
    clear hm
    go_enter Try.func20, Try.ntmps20
    go_wp2_with (first
      | (go_at_call 57; refine (h57 _ hb2).mono ?_; rintro e W3 ⟨rfl, hc3⟩; have hb3 := below_step hb2 hc3; have B33 := blk_below B32 hc3; have B43 := blk_below B42 hc3; obtain ⟨x0, x1, x2, x3, x4, x5, x6⟩ := box3s B33; obtain ⟨y0, y1, y2, y3, y4, y5, y6⟩ := box3s B43)
      | (go_at_call 28; refine (h28t _ hb1).mono ?_; rintro e W2 ⟨rfl, hc2⟩; have hb2 := below_step hb1 hc2; have B32 := blk_below B31 hc2; have B42 := blk_below B41 hc2; obtain ⟨x0, x1, x2, x3, x4, x5, x6⟩ := box3s B32; obtain ⟨y0, y1, y2, y3, y4, y5, y6⟩ := box3s B42)
      | (go_at_call 28; refine (h28p _ hb0).mono ?_; rintro e W1 ⟨rfl, hc1⟩; have hb1 := below_step hb0 hc1; have B31 := blk_below B3 hc1; have B41 := blk_below B4 hc1; obtain ⟨x0, x1, x2, x3, x4, x5, x6⟩ := box3s B31; obtain ⟨y0, y1, y2, y3, y4, y5, y6⟩ := box3s B41))
    obtain ⟨W4, hW4⟩ : ∃ W4, W3.alloc (.cells (madeCells #[.string ⟨#[]⟩, .bool false, .string ⟨#[]⟩, .slice none 0 0] ((s.length + 1) * 4)) 59) = W4 := ⟨_, rfl⟩
    have hr4 : RowB W4 w.heap.size (.slice (some ⟨W3.heap.size, 0, none⟩) 0 (s.length + 1)) [] := by
      rw [← hW4]
      exact RowB.empty (World.ownsRow_made W3 _ _ hb3.size (by unfold maxLen; omega) (size_madeCells _ _))
    have hb4 : Below w.heap.size w W4 := by rw [← hW4]; exact hb3.alloc hb3.size _
    have B34 : W4.heap[w.heap.size]? = some (.cells #[.bool p.f0, .string p.f1, .slice A p.f2.length c] 25 (0, 0)) := by rw [← hW4]; exact blk_alloc B33 _
    have B44 : W4.heap[w.heap.size + 1]? = some (.cells #[.bool t.f0, .string t.f1, .slice B t.f2.length d] 25 (0, 0)) := by rw [← hW4]; exact blk_alloc B43 _
    rw [hW4]
    clear hW4 h28p h28t h57 hmk B33 B43 hb3 hb2 hb1 hb0 B3 B4 B31 B41 B32 B42 hc1 hc2 hc3 x0 x1 x2 x3 x4 x5 x6 y0 y1 y2 y3 y4 y5 y6
    obtain ⟨i0, hi0, hz0, hz1, hz2⟩ := info_parts info59
    go_loopg [9, 33] s.length (fun gg v9 v33 wr => ∃ kk : Nat, kk ≤ s.length ∧ gg + kk = s.length ∧ v33 = .int .i64 (kk : Int) ∧ Aside0 (RowB wr w.heap.size v9 (s.take kk)) ∧ Aside0 (wr.heap[w.heap.size]? = some (.cells #[.bool p.f0, .string p.f1, .slice A p.f2.length c] 25 (0, 0))) ∧ Aside0 (wr.heap[w.heap.size + 1]? = some (.cells #[.bool t.f0, .string t.f1, .slice B t.f2.length d] 25 (0, 0))) ∧ Aside0 (Below w.heap.size w wr))
    case atStart => exact ⟨0, by omega, by omega, rfl, ⟨by rw [List.take_zero]; exact hr4⟩, ⟨B34⟩, ⟨B44⟩, ⟨hb4⟩⟩
    case round =>
      obtain ⟨kk, hk1, hk2, rfl, HR, HB3, HB4, HBW⟩ := hrel
      clear hr4 hb4 B34 B44
      by_cases hkk : kk < s.length
      · have q0 : decide (kk < s.length) = true := decide_eq_true hkk
        obtain ⟨ad, A3, c3, rfl, e0, e1, e2, e3, hl3, hC3⟩ := at_T59 HD.out (kk : Int) (by omega) (by omega)
        simp only [Int.toNat_natCast] at e0 e1 e2 e3
        have hrb : rd_T59 s (kk : Int) = s[kk] := by
          unfold rd_T59
          simp only [Int.toNat_natCast]
          rw [List.getD_eq_getElem?_getD, List.getElem?_eq_getElem hkk]
          rfl
        rw [hrb] at e0 e1 e2 e3 hl3 hC3
        replace e0 := pw_cell_below HBW.out e0
        replace e1 := pw_cell_below HBW.out e1
        replace e2 := pw_cell_below HBW.out e2
        replace e3 := pw_cell_below HBW.out e3
        have h27 := fun W (hw : Below w.heap.size w W) => twin_calls (szT s[kk].f1) s[kk].f1 A3 c3 W (Nat.le_refl _) (by have := HSB.out s[kk] (List.getElem_mem hkk); omega) (Kd.C_below hC3 hw) hl3
        have hts : s.take (kk + 1) = s.take kk ++ [s[kk]] := by rw [List.take_add_one, List.getElem?_eq_getElem hkk]; rfl
        have hyl : (s.take kk).length = kk := by rw [List.length_take]; omega
        clear h66 hrb hC3 hl3
        generalize s[kk] = x at *
        generalize s.take kk = ys at *
        obtain ⟨RA, rc, rfl⟩ := HR.out.slice
        obtain ⟨inner, vs, hown, hel⟩ := HR.out
        have HOWN := Aside0.mk hown
        have HEL := Aside0.mk hel
        have HYL := Lib.hid hyl
        have HTS := Lib.hid hts
        clear hown hel hyl hts
        go_wp2_with fail
        obtain ⟨W5, hW5⟩ : ∃ W5, wr.alloc (.cells #[.string x.f0, .bool x.f1.f0, .string x.f1.f1, .slice A3 x.f1.f2.length c3] 59) = W5 := ⟨_, rfl⟩
        have BN := blk_new wr (.cells #[.string x.f0, .bool x.f1.f0, .string x.f1.f1, .slice A3 x.f1.f2.length c3] 59)
        have hb15 : Below wr.heap.size wr W5 := by rw [← hW5]; exact below_one _
        have hs5 : W5.heap.size = wr.heap.size + 1 := by rw [← hW5]; simp
        rw [hW5] at BN ⊢
        clear hW5 e0 e1 e2 e3
        obtain ⟨n0, n1, n2, n3⟩ := box4c BN
        have hbw5 := below_step HBW.out hb15
        go_region_law (first
          | (refine step_append_lies _ rfl _ _ 22 rfl w.heap.size 59 i0 _ 4 64 Try.underlying22 hi0 hz0 hz1 hz2 rfl (by decide) (.slice RA ys.length rc) ys.length inner rfl ((own_later HOWN.out hb3).alloc _) ⟨w1.heap.size, 0, none⟩ 1 1 [.string x.f0, .bool x.f1.f0, .string x.f1.f1, .slice A4 x.f1.f2.length c4] rfl rfl (World.news_of_block (blk_new w1 _)) ?hone (by decide) ?h63 ?hby ?hbase _ rfl ?_; (case hone => simp [Value.oneCell']); (case h63 => have := HYL.out; unfold maxLen; omega); (case hby => have := HYL.out; omega); (case hbase => simp; omega); intro g cap w3 hown3 hgr hat hg3)
          | (go_simp; go_at_call 27; refine (h27 _ (below_drew1 hbw5)).mono ?_; rintro e w1 ⟨u, rfl, hW, hc3⟩; obtain ⟨A4, c4, hu4, _⟩ := hW.reads; subst hu4; have hc3' := below_step (below_drew1 (Below.refl _ W5)) hc3; have hb3 := below_step hb15 hc3'; have hs3 := hb3.size; have hs2 := HBW.out.size; obtain ⟨m0, m1, m2, m3⟩ := box4c (blk_below BN hc3')))
        all_goals (have HR2 := match_next (pn := x.f0) (t := x.f1) HOWN.out HEL.out HBW.out hb3 (hW.mono (fun k hk => by simp at hk; omega)) hown3 hgr hat)
        all_goals (obtain ⟨hb3z, b3z, b4z⟩ := match_after HBW.out HB3.out HB4.out HR.out HR2.1)
        all_goals (have HRN : RowB w3 w.heap.size (.slice (some ⟨g, 0, none⟩) (ys.length + 1) cap) (s.take (kk + 1)) := by rw [HTS.out]; exact HR2.2.1)
        all_goals (have HRN' := Aside0.mk HRN; clear HRN HR2 hW hown3 hgr hat hc3 hc3' hb3 h27 n0 n1 n2 n3 m0 m1 m2 m3 BN hb15 hbw5)
        all_goals go_wp2
        all_goals (go_roundg (s.length - kk - 1))
        all_goals (first | omega | exact ⟨kk + 1, by omega, by omega, by simp <;> (unfold wrap64; omega), HRN', ⟨b3z⟩, ⟨b4z⟩, ⟨hb3z⟩⟩)
      · have q0 : decide (kk < s.length) = false := decide_eq_false hkk
        obtain rfl : kk = s.length := by omega
        have hrow := HR.out
        rw [List.take_length] at hrow
        have hcall := fun W hw hr => h66 s u9 W hw hr (by omega)
        obtain ⟨x0, x1, x2, x3, x4, x5, x6⟩ := box3s HB3.out
        obtain ⟨y0, y1, y2, y3, y4, y5, y6⟩ := box3s HB4.out
        have HROW := Aside0.mk hrow
        rw [HM.out] at hcall
        clear h66 hrow HM
        cases o with
        | none =>
          go_wp2_with (go_at_call 66; refine (hcall _ HBW.out HROW.out).mono ?_; rintro e w1 ⟨hg1, A9, n9, c9, rfl⟩)
          refine bodyPost_ret (results_tmp3 rfl _ _ _) rfl ?_
          exact ⟨_, rfl, RowB.nil _ _, HBW.out.grown hg1 HBW.out.size (fun k hk => by obtain ⟨_, _, ho, _⟩ := HROW.out; exact own_base ho k hk)⟩
        | some l =>
          go_wp2_with (go_at_call 66; refine (hcall _ HBW.out HROW.out).mono ?_; rintro e w1 ⟨hg1, v2, rfl, hrow2, hown2⟩)
          refine bodyPost_ret (results_tmp3 rfl _ _ _) rfl ?_
          exact ⟨_, rfl, hrow2, HBW.out.grown hg1 HBW.out.size (fun k hk => by obtain ⟨_, _, ho, _⟩ := HROW.out; exact own_base ho k hk)⟩
  · rw [if_neg hok]
    cases hp : chkB p with
    | false =>
      rw [hp, if_neg (by simp)] at h28p
      clear hok hA hB hD hfp hft hfs h28t h57
      go_enter Try.func20, Try.ntmps20
      go_wp2_with (first
        | (go_at_call 28; refine (h28p _ hb0).mono ?_; rintro e W1 ⟨rfl, hc1⟩; have hb1 := below_step hb0 hc1; have B31 := blk_below B3 hc1; have B41 := blk_below B4 hc1; obtain ⟨x0, x1, x2, x3, x4, x5, x6⟩ := box3s B31; obtain ⟨y0, y1, y2, y3, y4, y5, y6⟩ := box3s B41))
      refine bodyPost_ret (results_tmp3 rfl _ _ _) rfl ?_
      exact hbad _ hb1
    | true =>
      rw [hp, if_pos rfl] at h28p
      cases ht : chkB t with
      | false =>
        rw [ht, if_neg (by simp)] at h28t
        clear hok hA hB hD hfp hft hfs h57
        go_enter Try.func20, Try.ntmps20
        go_wp2_with (first
          | (go_at_call 28; refine (h28t _ hb1).mono ?_; rintro e W2 ⟨rfl, hc2⟩; have hb2 := below_step hb1 hc2; have B32 := blk_below B31 hc2; have B42 := blk_below B41 hc2; obtain ⟨x0, x1, x2, x3, x4, x5, x6⟩ := box3s B32; obtain ⟨y0, y1, y2, y3, y4, y5, y6⟩ := box3s B42)
          | (go_at_call 28; refine (h28p _ hb0).mono ?_; rintro e W1 ⟨rfl, hc1⟩; have hb1 := below_step hb0 hc1; have B31 := blk_below B3 hc1; have B41 := blk_below B4 hc1; obtain ⟨x0, x1, x2, x3, x4, x5, x6⟩ := box3s B31; obtain ⟨y0, y1, y2, y3, y4, y5, y6⟩ := box3s B41))
        refine bodyPost_ret (results_tmp3 rfl _ _ _) rfl ?_
        exact hbad _ hb2
      | true =>
        rw [ht, if_pos rfl] at h28t
        have hv : vldB s = false := by cases hv : vldB s <;> simp_all
        rw [hv] at h57
        clear hok hA hB hD hfp hft hfs hv
        go_enter Try.func20, Try.ntmps20
        go_wp2_with (first
          | (go_at_call 57; refine (h57 _ hb2).mono ?_; rintro e W3 ⟨rfl, hc3⟩; have hb3 := below_step hb2 hc3; have B33 := blk_below B32 hc3; have B43 := blk_below B42 hc3; obtain ⟨x0, x1, x2, x3, x4, x5, x6⟩ := box3s B33; obtain ⟨y0, y1, y2, y3, y4, y5, y6⟩ := box3s B43)
          | (go_at_call 28; refine (h28t _ hb1).mono ?_; rintro e W2 ⟨rfl, hc2⟩; have hb2 := below_step hb1 hc2; have B32 := blk_below B31 hc2; have B42 := blk_below B41 hc2; obtain ⟨x0, x1, x2, x3, x4, x5, x6⟩ := box3s B32; obtain ⟨y0, y1, y2, y3, y4, y5, y6⟩ := box3s B42)
          | (go_at_call 28; refine (h28p _ hb0).mono ?_; rintro e W1 ⟨rfl, hc1⟩; have hb1 := below_step hb0 hc1; have B31 := blk_below B3 hc1; have B41 := blk_below B4 hc1; obtain ⟨x0, x1, x2, x3, x4, x5, x6⟩ := box3s B31; obtain ⟨y0, y1, y2, y3, y4, y5, y6⟩ := box3s B41))
        refine bodyPost_ret (results_tmp3 rfl _ _ _) rfl ?_
        exact hbad _ hb3
theorem match_walk (p t : S25) (s : List S59) (A : Option Addr) (c : Nat) (B : Option Addr) (d : Nat) (D : Option Addr) (f : Nat) (w : World) (hA : k25.C w A p.f2.length p.f2) (hB : k25.C w B t.f2.length t.f2) (hc : p.f2.length ≤ c) (hd : t.f2.length ≤ d)
    (hD : k59.C w D s.length s) (hf : s.length ≤ f) (hfp : fit p) (hft : fit t) (hfs : ∀ b, b ∈ s → fitB b) (hsl : s.length ≤ 500000) :
    Calls Try.prog 20 #[.agg #[.bool p.f0, .string p.f1, .slice A p.f2.length c], .agg #[.bool t.f0, .string t.f1, .slice B t.f2.length d], .slice D s.length f] w (MatchRes w (matchF p t s)) := by
  refine (match_row p t s A c B d D f w hA hB hc hd hD hf hfp hft hfs hsl).mono ?_
  rintro e w' ⟨v, rfl, hR, hb⟩
  obtain ⟨A2, c2, rfl, hl, hC⟩ := hR.reads
  exact ⟨A2, c2, rfl, hl, hC, hb⟩
end Go.Proofs.Ytgnklkmifcmlhaa.Q
