/- Proved here: the contract of types.inst. Conditions: those that each theorem names. -/
import Derived.Test.YtgnklkmifcmlhaaHTwin
import Derived.Test.YtgnklkmifcmlhaaHGrown
import Derived.Deep.AppendLies
namespace Go.Proofs.Ytgnklkmifcmlhaa.Q
open Go.RowKit Go.Shelf Go.Proofs.YtgnklkmifcmlhaaW.PrintWords Go.Proofs.YtgnklkmifcmlhaaW.PrintMore
set_option linter.unusedVariables false
set_option linter.unusedSimpArgs false
attribute [local go_sem] Oper.semAt_some

/-! ### inst -/
mutual
def instT (s : List S59) : S25 → S25
  | ⟨v, n, l⟩ => if v = true then (match s.find? (findP n) with | some b => b.f1 | none => ⟨v, n, l⟩) else ⟨false, n, instL s l⟩
def instL (s : List S59) : List S25 → List S25
  | [] => []
  | a :: l => instT s a :: instL s l
end
theorem instL_map (s : List S59) : ∀ l, instL s l = l.map (instT s)
  | [] => rfl
  | a :: l => by rw [instL, instL_map s l]; rfl
mutual
/-- Type variables have no arguments. -/
def okT : S25 → Prop
  | ⟨v, _, l⟩ => (v = true → l = []) ∧ okL l
def okL : List S25 → Prop
  | [] => True
  | a :: l => okT a ∧ okL l
end
theorem okL_mem : ∀ (l : List S25) (x : S25), okL l → x ∈ l → okT x
  | a :: l, x, h, hx => by
    simp only [okL] at h
    rcases List.mem_cons.1 hx with rfl | hx
    · exact h.1
    · exact okL_mem l x h.2 hx

structure InstAt (w : World) (s : List S59) (t : S25) (kk : Nat) (W : World) : Prop where
  b1 : W.heap[w.heap.size + 1]? = some (.cells #[.bool false, .string ⟨#[]⟩, .slice none 0 0] 25 (0, 0))
  b2 : ∃ v, W.heap[w.heap.size + 2]? = some (.cells #[.bool false, .string t.f1, v] 25 (0, 0)) ∧ RowW W (w.heap.size + 3) v (instL s (t.f2.take kk))
  hb : Below w.heap.size w W

theorem InstAt.next {w wr w1 w3 : World} {s : List S59} {t y : S25} {kk : Nat} {ys : List S25} {RA A4 : Option Addr} {rc c4 g cap : Nat} {inner : List Value} {vs : Nat → Value} {o : Obj}
    (htk : instL s (t.f2.take (kk + 1)) = ys ++ [y]) (hyl : ys.length = kk) (B1 : wr.heap[w.heap.size + 1]? = some (.cells #[.bool false, .string ⟨#[]⟩, .slice none 0 0] 25 (0, 0)))
    (hown : wr.ownsRow (w.heap.size + 3) 25 3 (.slice RA ys.length rc) ys.length inner)
    (hel : ∀ j, j < ys.length → inner[j * 3]? = some (.bool (rd_T25 ys (j : Int)).f0) ∧ inner[j * 3 + 1]? = some (.string (rd_T25 ys (j : Int)).f1) ∧ inner[j * 3 + 2]? = some (vs j) ∧ WT wr (fun k => w.heap.size + 3 ≤ k ∧ some k ≠ (Value.slice RA ys.length rc).ownBlock) (vs j) (rd_T25 ys (j : Int)).f2)
    (hb : Below w.heap.size w wr) (hlt : w.heap.size + 2 < wr.heap.size) (hb3 : Below wr.heap.size wr w1) (hW : WT w1 (fun k => wr.heap.size ≤ k) (.slice A4 y.f2.length c4) y.f2)
    (B6 : w3.heap[w.heap.size + 2]? = some (.cells #[.bool false, .string t.f1, .slice RA ys.length rc] 25 (0, 0)))
    (hown3 : w3.ownsRow (w.heap.size + 3) 25 3 (.slice (some ⟨g, 0, none⟩) (ys.length + 1) cap) (ys.length + 1) (inner ++ [.bool y.f0, .string y.f1, .slice A4 y.f2.length c4]))
    (hgr : (w1.alloc o).grownBy w3 (Value.slice RA ys.length rc).ownBlock) (hat : (Value.slice RA ys.length rc).ownBlock = some g ∨ g = (w1.alloc o).heap.size) :
    InstAt w s t (kk + 1) (w3.setCell ⟨w.heap.size + 2, 2, none⟩ (.slice (some ⟨g, 0, none⟩) (ys.length + 1) cap)) := by
  have hbo : Below wr.heap.size wr (w1.alloc o) := hb3.alloc hb3.size _
  have hrb : ∀ k, (Value.slice RA ys.length rc).ownBlock = some k → w.heap.size + 3 ≤ k ∧ k < wr.heap.size := fun k hk => ⟨own_base hown k hk, own_lt hown k hk⟩
  have hR := RowW.next (x := y) (own_later hown hbo) (fun j hj => ⟨(hel j hj).1, (hel j hj).2.1, (hel j hj).2.2.1, (hel j hj).2.2.2.later hbo⟩) ((hW.later (below_one _)).mono (fun k hk => ⟨by omega, fun e => by have := hrb k e.symm; omega⟩)) hown3 hgr hat
  have hB1 : w3.heap[w.heap.size + 1]? = some (.cells #[.bool false, .string ⟨#[]⟩, .slice none 0 0] 25 (0, 0)) :=
    (hgr.block _ (by have := hbo.size; omega) (fun e => by have := hrb _ e.symm; omega)).trans ((hbo.block _ (by omega)).trans B1)
  refine ⟨blk_far hB1 (by simp) _, ⟨_, blk_put B6 2 _ rfl, ?_⟩, ((below_step hb hbo).grown hgr (by have := hbo.size; have := hb.size; omega) (fun k hk => by have := hrb k hk; omega)).setCell (by simp) _⟩
  rw [htk]
  exact hR.far _ _ (by simp)

set_option maxHeartbeats 2000000 in
set_option maxRecDepth 100000 in
theorem inst_var (A0 : Option Addr) (c0 : Nat) (s : List S59) (t : S25) (A : Option Addr) (c : Nat) (w : World) (hs : k59.C w A0 s.length s) (hc0 : s.length ≤ c0)
    (hsz : ∀ b, b ∈ s → szT b.f1 ≤ 5864062014805) (hv : t.f0 = true) (hok : okT t) (hA : k25.C w A t.f2.length t.f2) (hc : t.f2.length ≤ c) :
    Calls Try.prog 59 #[.slice A0 s.length c0, .agg #[.bool t.f0, .string t.f1, .slice A t.f2.length c]] w fun e w' => ∃ v, e = .returned (.agg #[.bool (instT s t).f0, .string (instT s t).f1, v]) ∧ WT w' (fun k => w.heap.size ≤ k) v (instT s t).f2 ∧ Below w.heap.size w w' := by
  obtain ⟨tv, n, l⟩ := t
  dsimp only at hv hA hc ⊢
  subst hv
  obtain rfl : l = [] := by simp only [okT] at hok; exact hok.1 trivial
  simp only [instT, if_true]
  have hb2 := below_two (w := w) (.cells #[.bool true, .string n, .slice A 0 c] 25) (.cells #[.bool false, .string ⟨#[]⟩, .slice none 0 0] 25)
  have B0 := blk_mid (w := w) (.cells #[.bool true, .string n, .slice A 0 c] 25) (.cells #[.bool false, .string ⟨#[]⟩, .slice none 0 0] 25)
  have B1 := blk_top (w := w) (.cells #[.bool true, .string n, .slice A 0 c] 25) (.cells #[.bool false, .string ⟨#[]⟩, .slice none 0 0] 25)
  have HOK := Aside0.mk hok
  cases hf : s.find? (findP n) with
  | none =>
    have hfc := fun W (hw : Below w.heap.size w W) => find_at A0 c0 s n false ⟨#[]⟩ [] false W (Kd.C_below hs hw) hc0 (by simp [types_find.f, hf])
    clear hf hs hsz hA hok
    simp only [List.length_nil] at hfc ⊢
    go_enter Try.func59, Try.ntmps59
    go_wp2_with (go_at_call 100; refine (hfc _ hb2).mono ?_; rintro e W1 ⟨A3, c3, rfl, hl3, hC3, hb1⟩; have B3 := blk_below B0 hb1; have B4 := blk_below B1 hb1; obtain ⟨x0, x1, x2, _, _, _⟩ := box3 B3; obtain ⟨y0, y1, y2, y3, y4, y5⟩ := box3 B4; have l3 := blk_lt B3; have l4 := blk_lt B4)
    have P := blk_alloc (set3 (a' := .bool true) (b' := .string n) (c' := .slice A 0 c) B4) (.cells #[.bool false, .string ⟨#[]⟩, .slice A3 0 c3] 25)
    refine bodyPost_ret (results_cell_row rfl _ _ (w.heap.size + 1) 25 #[.bool true, .string n, .slice A 0 c] (0, 0) _ rfl P Try.underlying25 rfl (by kernel_rfl)) rfl ?_
    exact ⟨_, rfl, .nil _ _, ((((below_step hb2 hb1).setCell (by simp) _).setCell (by simp) _).setCell (by simp) _).alloc (by simp; omega) _⟩
  | some b =>
    have hbs := hsz b (List.mem_of_find?_eq_some hf)
    have hfc := fun W (hw : Below w.heap.size w W) => find_at A0 c0 s n b.f1.f0 b.f1.f1 b.f1.f2 true W (Kd.C_below hs hw) hc0 (by simp [types_find.f, hf])
    clear hf hs hsz hA hok
    dsimp only
    generalize b.f1 = x at *
    go_enter Try.func59, Try.ntmps59
    go_wp2_with (first | (go_at_call 100; refine (hfc _ hb2).mono ?_; rintro e W1 ⟨A3, c3, rfl, hl3, hC3, hb1⟩; have B3 := blk_below B0 hb1; have B4 := blk_below B1 hb1; obtain ⟨x0, x1, x2, _, _, _⟩ := box3 B3; obtain ⟨y0, y1, y2, y3, y4, y5⟩ := box3 B4; have l3 := blk_lt B3; have l4 := blk_lt B4) | (go_at_call 27; refine (twin_calls _ x A3 c3 _ (Nat.le_refl _) hbs (Kd.C_below hC3 (below_one _)) hl3).mono ?_; rintro e W2 ⟨v, rfl, hW, hb3⟩; obtain ⟨A4, c4, hv, _⟩ := hW.reads; subst hv; have B5 := blk_below (blk_alloc B4 (.cells #[.bool x.f0, .string x.f1, .slice A3 x.f2.length c3] 25)) hb3; obtain ⟨z0, z1, z2, z3, z4, z5⟩ := box3 B5; have l5 := blk_lt B5))
    have hs2 := hb3.size
    have hs1 := hb1.size
    refine bodyPost_ret (results_cell_row rfl _ _ (w.heap.size + 1) 25 #[.bool x.f0, .string x.f1, .slice A4 x.f2.length c4] (0, 0) _ rfl (set3 B5) Try.underlying25 rfl (by kernel_rfl)) rfl ?_
    simp only [World.size_alloc] at hs1 hs2 hW
    exact ⟨_, rfl, (((hW.far _ _ (by intro k hk; show k ≠ w.heap.size + 1; omega)).far _ _ (by intro k hk; show k ≠ w.heap.size + 1; omega)).far _ _ (by intro k hk; show k ≠ w.heap.size + 1; omega)).mono (fun k hk => by omega), (((below_step (below_step hb2 hb1) (below_step (below_one _) hb3)).setCell (by simp) _).setCell (by simp) _).setCell (by simp) _⟩

set_option maxHeartbeats 2000000 in
set_option maxRecDepth 100000 in
theorem inst_calls (A0 : Option Addr) (c0 : Nat) (s : List S59) (hc0 : s.length ≤ c0) (hsz : ∀ b, b ∈ s → szT b.f1 ≤ 5864062014805) : ∀ (n : Nat) (t : S25) (A : Option Addr) (c : Nat) (w : World), szT t ≤ n → szT t ≤ 1000000000000 → okT t → k59.C w A0 s.length s → k25.C w A t.f2.length t.f2 → t.f2.length ≤ c →
    Calls Try.prog 59 #[.slice A0 s.length c0, .agg #[.bool t.f0, .string t.f1, .slice A t.f2.length c]] w fun e w' => ∃ v, e = .returned (.agg #[.bool (instT s t).f0, .string (instT s t).f1, v]) ∧ WT w' (fun k => w.heap.size ≤ k) v (instT s t).f2 ∧ Below w.heap.size w w'
  | 0, t, A, c, w, h, _, _, _, _, _ => by have := szT_pos t; omega
  | n + 1, t, A, c, w, hn, hst, hok, hs, hA, hc => by
    cases hv : t.f0 with
    | true =>
      have h := inst_var A0 c0 s t A c w hs hc0 hsz hv hok hA hc
      rw [hv] at h
      exact h
    | false =>
      have hit : instT s t = ⟨false, t.f1, instL s t.f2⟩ := by
        obtain ⟨tv, tn, l⟩ := t
        dsimp only at hv
        subst hv
        rw [instT, if_neg (by simp)]
      have h2 : szT t = szL t.f2 + 1 := by cases t; simp [szT]
      have hlen : t.f2.length ≤ 1000000000000 := by
        have h3 := szL_len t.f2
        omega
      have ih := fun (kk : Nat) (hk : kk < t.f2.length) A' c' W hS hC hc' => inst_calls A0 c0 s hc0 hsz n (rd_T25 t.f2 (kk : Int)) A' c' W (by
        have := szL_mem t.f2 _ (getD_mem t.f2 z25 kk hk)
        show szT (t.f2.getD kk z25) ≤ n
        omega) (by
        have := szL_mem t.f2 _ (getD_mem t.f2 z25 kk hk)
        show szT (t.f2.getD kk z25) ≤ 1000000000000
        omega) (okL_mem t.f2 _ (by obtain ⟨tv, tn, l⟩ := t; simp only [okT] at hok; exact hok.2) (getD_mem t.f2 z25 kk hk)) hS hC hc'
      rw [hit]
      dsimp only
      have HS := Aside0.mk hs
      have HA := Aside0.mk hA
      have HC := Aside0.mk hc
      have IH := Aside0.mk ih
      clear hs hA hc ih hst hn hsz hok h2 hit
      have hb2 := below_two (w := w) (.cells #[.bool false, .string t.f1, .slice A t.f2.length c] 25) (.cells #[.bool false, .string ⟨#[]⟩, .slice none 0 0] 25)
      go_enter Try.func59, Try.ntmps59
      go_wp2_with fail
      obtain ⟨W0, hW0⟩ : ∃ W0, ((w.alloc (.cells #[.bool false, .string t.f1, .slice A t.f2.length c] 25)).alloc (.cells #[.bool false, .string ⟨#[]⟩, .slice none 0 0] 25)).alloc (.cells #[.bool false, .string t.f1, .slice none 0 0] 25) = W0 := ⟨_, rfl⟩
      have hS0 : InstAt w s t 0 W0 := by
        rw [← hW0]
        refine ⟨blk_alloc (blk_top _ _) _, ⟨_, ?_, by rw [List.take_zero]; exact RowW.nil _ _⟩, hb2.alloc (by simp; omega) _⟩
        have := blk_new ((w.alloc (.cells #[.bool false, .string t.f1, .slice A t.f2.length c] 25)).alloc (.cells #[.bool false, .string ⟨#[]⟩, .slice none 0 0] 25)) (.cells #[.bool false, .string t.f1, .slice none 0 0] 25)
        simpa using this
      rw [hW0]
      clear hW0 hb2
      go_loopg [29] t.f2.length (fun gg v29 wr => ∃ kk : Nat, kk ≤ t.f2.length ∧ gg + kk = t.f2.length ∧ v29 = .int .i64 (kk : Int) ∧ Aside0 (InstAt w s t kk wr))
      case atStart => exact ⟨0, by omega, by omega, rfl, ⟨hS0⟩⟩
      case round =>
        obtain ⟨kk, hk1, hk2, rfl, hT⟩ := hrel
        clear hS0
        obtain ⟨B1, ⟨v, B2, hrow⟩, hb⟩ := hT.out
        clear hT
        by_cases hkk : kk < t.f2.length
        · have q0 : decide (kk < t.f2.length) = true := decide_eq_true hkk
          obtain ⟨ad, A2, c2, rfl, hx0, hx1, hx2, hl2, hC2⟩ := at_T25 HA.out (kk : Int) (by omega) (by omega)
          replace hx0 := pw_cell_below hb hx0
          replace hx1 := pw_cell_below hb hx1
          replace hx2 := pw_cell_below hb hx2
          simp only [Int.toNat_natCast] at hx0 hx1 hx2
          have hcall := fun W (hw : Below w.heap.size w W) => IH.out kk hkk A2 c2 W (Kd.C_below HS.out hw) (Kd.C_below hC2 hw) hl2
          have htk : instL s (t.f2.take (kk + 1)) = instL s (t.f2.take kk) ++ [instT s (rd_T25 t.f2 (kk : Int))] := by
            rw [instL_map, instL_map, List.take_add_one, List.map_append, List.getElem?_eq_getElem hkk]
            simp only [Option.toList_some, List.map_cons, List.map_nil]
            rw [(rd_get t.f2 kk _ (List.getElem?_eq_getElem hkk)).2]
          have hyl : (instL s (t.f2.take kk)).length = kk := by rw [instL_map, List.length_map, List.length_take]; omega
          generalize instL s (t.f2.take kk) = ys at *
          generalize rd_T25 t.f2 (kk : Int) = x at *
          generalize hY : instT s x = y at *
          clear hY
          obtain ⟨inner, vs, hown, hel⟩ := hrow
          obtain ⟨RA, rc, rfl⟩ := own_slice hown
          have HTK := Lib.hid htk
          have HYL := Lib.hid hyl
          have HEL := Aside0.mk hel
          have HOWN := Aside0.mk hown
          have HB1 := Aside0.mk B1
          have HB2 := Aside0.mk B2
          have HB := Aside0.mk hb
          have hlt := blk_lt B2
          clear htk hyl hel hown B1 hb hC2
          obtain ⟨c0', c1', c2', f0, f1, f2⟩ := box3 B2
          clear B2
          go_wp2_with fail
          obtain ⟨i0, hi0, hz0, hz1, hz2⟩ := info_parts info25
          obtain ⟨W1, hW1⟩ : ∃ W1, wr.alloc (.cells #[.bool x.f0, .string x.f1, .slice A2 x.f2.length c2] 25) = W1 := ⟨_, rfl⟩
          have BN := blk_new wr (.cells #[.bool x.f0, .string x.f1, .slice A2 x.f2.length c2] 25)
          have hsz1 : W1.heap.size = wr.heap.size + 1 := by rw [← hW1]; simp
          have hbw1 : Below wr.heap.size wr W1 := by rw [← hW1]; exact below_one _
          rw [hW1] at BN ⊢
          clear hW1
          obtain ⟨n0, n1, n2, _, _, _⟩ := box3 BN
          obtain ⟨m0, m1, m2, g0, g1, g2⟩ := box3 (blk_below HB2.out hbw1)
          have hlt1 := Nat.lt_of_lt_of_le hlt hbw1.size
          clear BN c0' c1' c2' f0 f1 f2 hx0 hx1 hx2
          go_region_law (first
            | (refine step_append_lies _ rfl _ _ 23 rfl (w.heap.size + 3) 25 i0 _ 3 48 Try.underlying23 hi0 hz0 hz1 hz2 rfl (by decide) (.slice RA ys.length rc) ys.length inner rfl ((own_later HOWN.out hb3).alloc _) ⟨w1.heap.size, 0, none⟩ 1 1 [.bool y.f0, .string y.f1, .slice A4 y.f2.length c4] rfl rfl (World.news_of_block (blk_new w1 _)) ?hone (by decide) ?h63 ?hby ?hbase _ rfl ?_; (case hone => simp [Value.oneCell']); (case h63 => have := HYL.out; unfold maxLen; omega); (case hby => have := HYL.out; omega); (case hbase => simp; omega); intro g cap w3 hown3 hgr hat hg3; have B6 := (hgr.block (w.heap.size + 2) (by simp; omega) (fun e => by have := own_base HOWN.out _ e.symm; omega)).trans (blk_alloc B5 _); obtain ⟨k0, k1, k2, k3, k4, k5⟩ := box3 B6)
            | (go_simp; go_at_call 59; refine (hcall _ (below_drew1 (HB.out.trans (hbw1.mono HB.out.size)))).mono ?_; rintro e w1 ⟨u, rfl, hW, hb1⟩; obtain ⟨A4, c4, hu4, _⟩ := hW.reads; subst hu4; have hb2 := below_step (below_drew1 (Below.refl _ W1)) hb1; have hb3 := below_step hbw1 hb2; have B5 := blk_below HB2.out hb3; obtain ⟨z0, z1, z2, z3, z4, z5⟩ := box3 B5; have l5 := blk_lt B5))
          all_goals (have HR := InstAt.next (s := s) (t := t) (kk := kk) HTK.out HYL.out HB1.out HOWN.out HEL.out HB.out hlt (hb3 := hb3) (hW.mono (fun k hk => by simp at hk; omega)) B6 hown3 hgr hat)
          all_goals (clear hb1 hb2 hb3 B5 B6 z0 z1 z2 z3 z4 z5 hown3 hgr hat hW k0 k1 k2 k3 k4 k5 hcall n0 n1 n2 m0 m1 m2 g0 g1 g2)
          all_goals go_wp2
          all_goals (go_roundg (t.f2.length - kk - 1))
          case measure => omega
          case rel => exact ⟨kk + 1, by omega, by omega, by simp, ⟨HR⟩⟩
          case measure => omega
          case rel => exact ⟨kk + 1, by omega, by omega, by simp, ⟨HR⟩⟩
          case measure => omega
          case rel => exact ⟨kk + 1, by omega, by omega, by simp, ⟨HR⟩⟩
          case measure => omega
          case rel => exact ⟨kk + 1, by omega, by omega, by simp, ⟨HR⟩⟩
        · have q0 : decide (kk < t.f2.length) = false := decide_eq_false hkk
          obtain rfl : kk = t.f2.length := by omega
          rw [List.take_length] at hrow
          have HROW := Aside0.mk hrow
          obtain ⟨c0', c1', c2', f0, f1, f2⟩ := box3 B2
          obtain ⟨e0, e1, e2, g0, g1, g2⟩ := box3 B1
          obtain ⟨inner, vs, hown, _⟩ := hrow
          obtain ⟨RA, rc, rfl⟩ := own_slice hown
          clear hkk hown
          go_wp2
          refine bodyPost_ret (results_cell_row rfl _ _ (w.heap.size + 1) 25 #[.bool false, .string t.f1, .slice RA (instL s t.f2).length rc] (0, 0) _ rfl (set3 B1) Try.underlying25 rfl (by kernel_rfl)) rfl ?_
          exact ⟨_, rfl, (((HROW.out.far _ _ (by simp)).far _ _ (by simp)).far _ _ (by simp)).tree.mono (fun k hk => by omega), ((hb.setCell (by simp) _).setCell (by simp) _).setCell (by simp) _⟩
end Go.Proofs.Ytgnklkmifcmlhaa.Q
