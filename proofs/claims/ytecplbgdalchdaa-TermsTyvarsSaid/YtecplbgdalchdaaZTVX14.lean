/- Proved here: parts of the proof of a given statement (HRowTermsTyvars): contracts of the functions that it reaches, what they answer, and in the last text the statement itself. Conditions: those that each theorem names. -/
import Derived.Test.YtecplbgdalchdaaZTVX9
import Derived.Test.YtecplbgdalchdaaZTVX13
import Derived.Deep.RegionHeldLaw
import Derived.Deep.RegionLawGrows
import Derived.Deep.Cut
import Derived.Test.YtecplbgdalchdaaZTVX11
/- Proved here: what terms.formed answers on abstractions. Conditions: those that each theorem names. -/
namespace Go.Proofs.Ytecplbgdalchdaa.Q
open Go.RowKit Go.Shelf Go.Proofs.YtecplbgdalchdaaW.PrintWords Go.Proofs.YtecplbgdalchdaaW.PrintMore
set_option linter.unusedVariables false
set_option linter.unusedSimpArgs false
attribute [local go_sem] Oper.semAt_some

theorem formM_absg (tn : ByteArray) (tt : S24) (x : S27) (l : List S24) (h1 : nmV tn = true) (h2 : chkB tt = true) : formM (⟨5, tn, tt, 0, [x]⟩ : S27) l = formB tt [formM x (tt :: l)] := by
  rw [formM_abs _ _ rfl]
  simp [h1, h2]
theorem tm_one {w : World} {ok : Nat → Prop} {B : Option Addr} {d : Nat} {x : S27} (h : Kd.F k27 w ok B 1 [x]) (hd : 1 ≤ d) : ∃ ad A7 c7 B7 d7, B = some ad ∧ RdF w ok x A7 c7 B7 d7 ∧ (w.cell? ad = some (.int .u8 x.f0) ∧ w.cell? ⟨ad.block, ad.off + 1, none⟩ = some (.string x.f1) ∧ w.cell? ⟨ad.block, ad.off + 2, none⟩ = some (.bool x.f2.f0) ∧ w.cell? ⟨ad.block, ad.off + 3, none⟩ = some (.string x.f2.f1) ∧ w.cell? ⟨ad.block, ad.off + 4, none⟩ = some (.slice A7 x.f2.f2.length c7) ∧ w.cell? ⟨ad.block, ad.off + 5, none⟩ = some (.int .i64 x.f3) ∧ w.cell? ⟨ad.block, ad.off + 6, none⟩ = some (.slice B7 x.f4.length d7)) := by
  have hV : Kd.V k27 27 w 0 ok (.slice B ([x] : List S27).length d) [x] := Kd.V_mk hd h
  obtain ⟨ad, A7, c7, B7, d7, rfl, ⟨e0, e1, e2, e3, e4, e5, e6⟩, r1⟩ := tm_elem hV 0 (by simp)
  exact ⟨ad, A7, c7, B7, d7, rfl, r1, e0, e1, e2, e3, e4, e5, e6⟩
abbrev AbS (w : World) (tn : ByteArray) (tt : S24) (x : S27) (A : Option Addr) (c d : Nat) (ad : Addr) (A7 : Option Addr) (c7 : Nat) (B7 : Option Addr) (d7 : Nat) (V W : World) : Prop :=
  W.cell? ⟨w.heap.size, 0, none⟩ = some (.int .u8 5) ∧ W.cell? ⟨w.heap.size, 1, none⟩ = some (.string tn) ∧ W.cell? ⟨w.heap.size, 2, none⟩ = some (.bool tt.f0) ∧ W.cell? ⟨w.heap.size, 3, none⟩ = some (.string tt.f1) ∧ W.cell? ⟨w.heap.size, 4, none⟩ = some (.slice A tt.f2.length c) ∧ W.cell? ⟨w.heap.size, 5, none⟩ = some (.int .i64 0) ∧ W.cell? ⟨w.heap.size, 6, none⟩ = some (.slice (some ad) 1 d) ∧ W.cell? ad = some (.int .u8 x.f0) ∧ W.cell? ⟨ad.block, ad.off + 1, none⟩ = some (.string x.f1) ∧ W.cell? ⟨ad.block, ad.off + 2, none⟩ = some (.bool x.f2.f0) ∧ W.cell? ⟨ad.block, ad.off + 3, none⟩ = some (.string x.f2.f1) ∧ W.cell? ⟨ad.block, ad.off + 4, none⟩ = some (.slice A7 x.f2.f2.length c7) ∧ W.cell? ⟨ad.block, ad.off + 5, none⟩ = some (.int .i64 x.f3) ∧ W.cell? ⟨ad.block, ad.off + 6, none⟩ = some (.slice B7 x.f4.length d7) ∧ W.heap[w.heap.size + 1]? = some (.cells #[.bool false, .string ⟨#[]⟩, .slice none 0 0] 24 (0, 0)) ∧ Below V.heap.size V W
section
variable {w V W W' : World} {tn : ByteArray} {tt : S24} {x : S27} {A A7 B7 : Option Addr} {c d c7 d7 : Nat} {ad : Addr}
theorem AbS.below (h : AbS w tn tt x A c d ad A7 c7 B7 d7 V W) : Below V.heap.size V W := h.2.2.2.2.2.2.2.2.2.2.2.2.2.2.2
theorem AbS.blk (h : AbS w tn tt x A c d ad A7 c7 B7 d7 V W) : W.heap[w.heap.size + 1]? = some (.cells #[.bool false, .string ⟨#[]⟩, .slice none 0 0] 24 (0, 0)) := h.2.2.2.2.2.2.2.2.2.2.2.2.2.2.1
theorem AbS.step (h : AbS w tn tt x A c d ad A7 c7 B7 d7 V W) (hb : Below W.heap.size W W') : AbS w tn tt x A c d ad A7 c7 B7 d7 V W' := by
  obtain ⟨h0, h1, h2, h3, h4, h5, h6, g0, g1, g2, g3, g4, g5, g6, h7, h8⟩ := h
  exact ⟨pw_cell_below hb h0, pw_cell_below hb h1, pw_cell_below hb h2, pw_cell_below hb h3, pw_cell_below hb h4, pw_cell_below hb h5, pw_cell_below hb h6, pw_cell_below hb g0, pw_cell_below hb g1, pw_cell_below hb g2, pw_cell_below hb g3, pw_cell_below hb g4, pw_cell_below hb g5, pw_cell_below hb g6, blk_below h7 hb, below_step h8 hb⟩
theorem AbS.put (hV : w.heap.size + 1 < V.heap.size) (had : ad.block < V.heap.size) (h : AbS w tn tt x A c d ad A7 c7 B7 d7 V W) {gb : Nat} (hg : V.heap.size ≤ gb) (u0 u1 u2 : Value) : AbS w tn tt x A c d ad A7 c7 B7 d7 V (((W.setCell ⟨gb, 0, none⟩ u0).setCell ⟨gb, 1, none⟩ u1).setCell ⟨gb, 2, none⟩ u2) := by
  obtain ⟨h0, h1, h2, h3, h4, h5, h6, g0, g1, g2, g3, g4, g5, g6, h7, h8⟩ := h
  have n0 : w.heap.size ≠ gb := by omega
  have n1 : ad.block ≠ gb := by omega
  have n2 : w.heap.size + 1 ≠ gb := by omega
  have f : ∀ {p : Addr} {u : Value}, W.cell? p = some u → p.block ≠ gb → (((W.setCell ⟨gb, 0, none⟩ u0).setCell ⟨gb, 1, none⟩ u1).setCell ⟨gb, 2, none⟩ u2).cell? p = some u := fun hc hp => cell_away (cell_away (cell_away hc hp) hp) hp
  exact ⟨f h0 n0, f h1 n0, f h2 n0, f h3 n0, f h4 n0, f h5 n0, f h6 n0, f g0 n1, f g1 n1, f g2 n1, f g3 n1, f g4 n1, f g5 n1, f g6 n1, blk_far (blk_far (blk_far h7 n2 _) n2 _) n2 _, ((h8.setCell hg _).setCell hg _).setCell hg _⟩
end
def AbRel (w : World) (ok : Nat → Prop) (V : World) (o : Option S24) (gb : Nat) (u : S24) (A5 : Option Addr) (c5 : Nat) (W : World) : Prop :=
  W.heap[gb]? = some (.cells #[.bool u.f0, .string u.f1, .slice A5 u.f2.length c5] 24 (0, 0)) ∧ (u.f2.length ≤ c5 ∧ Kd.F k24 W (fun k => ok k ∨ V.heap.size ≤ k) A5 u.f2.length u.f2) ∧ ∀ v, o = some v → u = v
theorem chkB_fitA {t : S24} (h : chkB t = true) : fit t := by
  obtain ⟨h1, h2, _⟩ := chkB_sh h
  refine ⟨by omega, ?_⟩
  have hall : ∀ t : S24, shB t = true → allT (fun x => okS x.f1) t := by
    intro t
    induction t using S_ind with
    | _ t ih =>
      intro h
      rw [shB_eq, Bool.and_eq_true] at h
      rw [allT_eq]
      have hn : nameB t.f1 = true := by
        have hh := h.1
        unfold headB at hh
        rw [Bool.and_eq_true] at hh
        exact hh.1
      unfold nameB at hn
      simp only [Bool.and_eq_true, decide_eq_true_eq] at hn
      exact ⟨by have := hn.1.2; unfold okS; omega, (allL_mem _ _).2 (fun x hx => ih x hx (shBL_mem _ _ h.2 hx))⟩
  exact hall t h1
theorem fit_fn2 {x y : S24} (hx : chkB x = true) (hy : chkB y = true) : fit ⟨false, funN, [x, y]⟩ := by
  have h1 := chkB_fitA hx
  have h2 := chkB_fitA hy
  have s1 := (chkB_sh hx).2.1
  have s2 := (chkB_sh hy).2.1
  exact ⟨by simp only [szT, szL]; omega, by simp only [allT, allL]; exact ⟨by unfold okS; decide, h1.2, h2.2, trivial⟩⟩
def AbLoc (w W7 W : World) : Prop := W7.heap.size ≤ W.heap.size ∧ ∀ k, k < W7.heap.size → k ≠ w.heap.size + 1 → W.heap[k]? = W7.heap[k]?
abbrev RsS (w W7 : World) (g : Nat) (W : World) : Prop :=
  W.heap[w.heap.size + 1]? = some (.cells #[.bool false, .string ⟨#[102, 117, 110]⟩, .slice (some ⟨g, 0, none⟩) 2 2] 24 (0, 0)) ∧ W.cell? ⟨w.heap.size + 1, 0, none⟩ = some (.bool false) ∧ W.cell? ⟨w.heap.size + 1, 1, none⟩ = some (.string ⟨#[102, 117, 110]⟩) ∧ W.cell? ⟨w.heap.size + 1, 2, none⟩ = some (.slice (some ⟨g, 0, none⟩) 2 2) ∧ Below w.heap.size w W ∧ AbLoc w W7 W
theorem RsS.mk {w W7 W : World} {g : Nat} (h : W.heap[w.heap.size + 1]? = some (.cells #[.bool false, .string ⟨#[102, 117, 110]⟩, .slice (some ⟨g, 0, none⟩) 2 2] 24 (0, 0))) (hb : Below w.heap.size w W) (hl : AbLoc w W7 W) : RsS w W7 g W := by
  obtain ⟨a, b, c, _⟩ := box3s h
  exact ⟨h, a, b, c, hb, hl⟩
theorem RsS.step {w W7 W W' : World} {g : Nat} (h : RsS w W7 g W) (hb : Below W.heap.size W W') : RsS w W7 g W' :=
  RsS.mk (blk_below h.1 hb) (below_step h.2.2.2.2.1 hb) ⟨Nat.le_trans h.2.2.2.2.2.1 hb.size, fun k hk hn => (hb.block k (Nat.lt_of_lt_of_le hk h.2.2.2.2.2.1)).trans (h.2.2.2.2.2.2 k hk hn)⟩
theorem RsS.put {w W7 W : World} {g : Nat} (h : RsS w W7 g W) : RsS w W7 g (((W.setCell ⟨w.heap.size + 1, 0, none⟩ (.bool false)).setCell ⟨w.heap.size + 1, 1, none⟩ (.string ⟨#[102, 117, 110]⟩)).setCell ⟨w.heap.size + 1, 2, none⟩ (.slice (some ⟨g, 0, none⟩) 2 2)) :=
  RsS.mk (set3 h.1) (((h.2.2.2.2.1.setCell (by simp) _).setCell (by simp) _).setCell (by simp) _) ⟨by simpa using h.2.2.2.2.2.1, fun k hk hn => by rw [Below.heap_setCell _ _ _ k hn, Below.heap_setCell _ _ _ k hn, Below.heap_setCell _ _ _ k hn]; exact h.2.2.2.2.2.2 k hk hn⟩
theorem ab_fin {w5 Wz : World} {okR okF : Nat → Prop} {gb n : Nat} {A5 : Option Addr} {l : List S24} (h : Kd.F k24 w5 okR A5 n l) (hne : ∀ k, okR k → k < w5.heap.size → k ≠ gb) (hz : ∀ k, k < w5.heap.size → Wz.heap[k]? = w5.heap[k]?) (hm : ∀ k, okR k → okF k) (a b c : Value) : Kd.F k24 (((Wz.setCell ⟨gb, 0, none⟩ a).setCell ⟨gb, 1, none⟩ b).setCell ⟨gb, 2, none⟩ c) okF A5 n l :=
  Kd.F_mono (Kd.F_step h (fun k hk hlt => by rw [Below.heap_setCell _ _ _ k (hne k hk hlt), Below.heap_setCell _ _ _ k (hne k hk hlt), Below.heap_setCell _ _ _ k (hne k hk hlt)]; exact hz k hlt)) hm
set_option maxHeartbeats 8000000 in
set_option maxRecDepth 100000 in
theorem formed_abs (tn : ByteArray) (tt : S24) (x : S27) (lo : List S24) (hnv : nmV tn = true) (hcb : chkB tt = true) (hnn : okS tn) (hft : fit tt) (hlo : lo.length ≤ 1000000) (hlc : ∀ y, y ∈ lo → chkB y = true) (A : Option Addr) (c : Nat) (B : Option Addr) (d : Nat) (E : Option Addr) (ce : Nat) (w : World) (ok : Nat → Prop) (hok : ∀ k, ok k → k < w.heap.size) (hX : RdF w ok (⟨5, tn, tt, 0, [x]⟩ : S27) A c B d) (hE : Kd.F k24 w ok E lo.length lo) (hce : lo.length ≤ ce)
    (ih : ∀ (ok' : Nat → Prop) A c B d E' ce' W, Below w.heap.size w W → (∀ k, ok' k → k < W.heap.size) → RdF W ok' x A c B d → Kd.F k24 W ok' E' (lo ++ [tt]).length (lo ++ [tt]) → (lo ++ [tt]).length ≤ ce' → Calls Try.prog 168 #[.agg #[.int .u8 x.f0, .string x.f1, .bool x.f2.f0, .string x.f2.f1, .slice A x.f2.f2.length c, .int .i64 x.f3, .slice B x.f4.length d], .slice E' (lo ++ [tt]).length ce'] W (FormPost W ok' (formM x (lo ++ [tt]).reverse))) :
    Calls Try.prog 168 #[.agg #[.int .u8 5, .string tn, .bool tt.f0, .string tt.f1, .slice A tt.f2.length c, .int .i64 0, .slice B 1 d], .slice E lo.length ce] w (FormPost w ok (formM (⟨5, tn, tt, 0, [x]⟩ : S27) lo.reverse)) := by
  have hS0 := FmS.start w (⟨5, tn, tt, 0, [x]⟩ : S27) A c B d
  have BR := (two_new w (.cells #[.int .u8 5, .string tn, .bool tt.f0, .string tt.f1, .slice A tt.f2.length c, .int .i64 0, .slice B 1 d] 27) (.cells #[.bool false, .string ⟨#[]⟩, .slice none 0 0] 24)).2.2
  have hpl := fun W (hw : Below w.heap.size w W) => terms_plain.calls 5 tn tt.f0 tt.f1 A c tt.f2 0 B d [x] true true false _ W (hX.at hw).1.1 hX.1.2 (hX.at hw).2.1 hX.2.2 (plain_ttf (⟨5, tn, tt, 0, [x]⟩ : S27))
  have hnm := fun W => named_calls tn hnn W
  have hck := fun W (hw : Below w.heap.size w W) => tcheck_calls tt A c W hft (hX.at hw).1.1 hX.1.2
  rw [hnv] at hnm
  rw [hcb] at hck
  have hF := formM_absg tn tt x lo.reverse hnv hcb
  have hrev : (lo ++ [tt]).reverse = tt :: lo.reverse := by simp
  rw [hrev] at ih
  dsimp only [List.length_cons, List.length_nil] at hS0 hpl
  obtain ⟨ad, A7, c7, B7, d7, rfl, hXx, hel0⟩ := tm_one hX.2.1 hX.2.2
  obtain ⟨inner, hin1, hin2, hin3⟩ := env_cells hE hce
  obtain ⟨i0, hi, hz0, hz1, hz2⟩ := info_parts info24
  have hA := hX.1
  obtain ⟨x0, x1, x2, x3, x4, x5, x6, _, hb⟩ := id hS0
  have hadb : ad.block < w.heap.size := World.block_lt_of_cell? w ad hel0.1
  have n0 : (0 : Int) ≤ (lo.length : Int) := by omega
  have n1 : (lo.length : Int) ≤ (ce : Int) := by omega
  have n2 : (0 : Int) < (1 : Int) := by omega
  have hll : (lo ++ [tt]).length = lo.length + 1 := by simp
  rw [hll] at ih
  have hoc : ∀ b, formM x (tt :: lo.reverse) = some b → chkB b = true := fun b hb => formM_chk x _ b (fun y hy => by
    rcases List.mem_cons.1 hy with rfl | hy
    · exact hcb
    · exact hlc y (List.mem_reverse.1 hy)) hb
  generalize formM x (tt :: lo.reverse) = o at *
  generalize hO : formM (⟨5, tn, tt, 0, [x]⟩ : S27) lo.reverse = o' at *
  clear hX hO hrev
  have HH := Aside0.mk (And.intro hin1 (And.intro hin2 (And.intro hin3 (And.intro hi (And.intro hz0 (And.intro hz1 (And.intro hz2 (And.intro hE hF))))))))
  clear hin1 hin2 hin3 hi hz0 hz1 hz2 hE hF
  go_enter Try.func168, Try.ntmps168
  go_upto_region 20 with (first
    | (go_at_call 113; (with_reducible refine (hck _ hN4.below).mono ?_); rintro e V ⟨rfl, hb5⟩; have hN5 := hN4.step hb5; have BR5 := blk_below BR4 hb5; obtain ⟨x0, x1, x2, x3, x4, x5, x6, _, hb⟩ := id hN5)
    | (go_at_call 178; (with_reducible refine (hnm _).mono ?_); rintro e w4 ⟨rfl, hb4⟩; have hN4 := hN3.step hb4; have BR4 := blk_below BR3 hb4; obtain ⟨x0, x1, x2, x3, x4, x5, x6, _, hb⟩ := id hN4)
    | (go_at_call 209; (with_reducible refine (hpl _ hS0.below).mono ?_); rintro e w3 ⟨rfl, hb3⟩; have hN3 := hS0.step hb3; have BR3 := blk_below BR hb3; obtain ⟨x0, x1, x2, x3, x4, x5, x6, _, hb⟩ := id hN3))
  have hVw := hN5.below
  have hVs : w.heap.size + 1 < V.heap.size := blk_lt BR5
  have hSV : AbS w tn tt x A c d ad A7 c7 B7 d7 V V := ⟨x0, x1, x2, x3, x4, x5, x6, pw_cell_below hVw hel0.1, pw_cell_below hVw hel0.2.1, pw_cell_below hVw hel0.2.2.1, pw_cell_below hVw hel0.2.2.2.1, pw_cell_below hVw hel0.2.2.2.2.1, pw_cell_below hVw hel0.2.2.2.2.2.1, pw_cell_below hVw hel0.2.2.2.2.2.2, BR5, Below.refl _ _⟩
  clear hpl hnm hck hN3 hN4 hN5 BR3 BR4 hb3 hb4 hb5 x0 x1 x2 x3 x4 x5 x6 hS0 BR hb hel0 BR5
  go_cut [10, 11] (fun v10 v11 wc => ∃ gb u A5 c5, v10 = .pointer (some ⟨gb, 0, none⟩) ∧ v11 = .bool o.isSome ∧ Aside0 (AbRel w ok V o gb u A5 c5 wc ∧ V.heap.size ≤ gb ∧ AbS w tn tt x A c d ad A7 c7 B7 d7 V wc))
  case first =>
    obtain ⟨hin1, hin2, hin3, hi, hz0, hz1, hz2, hE, hF⟩ := HH.out
    clear HH hF hE
    have hSd := hSV.step (below_drew1 (Below.refl _ _))
    have hbd : Below w.heap.size w V.drew := below_drew1 hVw
    have hsz0 := hVw.size
    have hvd : V.drew.heap.size = V.heap.size := by simp
    refine wp_region_held_drew (S := fun W => AbS w tn tt x A c d ad A7 c7 B7 d7 V W) (by kernel_rfl) (by with_reducible exact hSd) (fun hHeld => ?_)
    refine wpAnyH_take (i := 0) (oi := { dst := some 161, op := Op.fieldAddr 27 (Operand.tmp 2) 4, type := 0, pos := "terms.go:54", after := #[], guard := none }) (v := ?_) rfl (by kernel_rfl) (by kernel_rfl) (by kernel_rfl) (fun _ _ _ h => h) (Or.inl ⟨by rfl, ?_⟩) (by assumption) ?_
    rotate_left
    · intro w' hSw; (try dsimp only at hSw); go_simp; try with_reducible rfl
    try simp only [Act.put, List.setIfInBounds_toArray, List.set_cons_zero, List.set_cons_succ]
    refine wpAnyH_take (i := 1) (oi := { dst := some 162, op := Op.load 25 (Operand.tmp 161), type := 25, pos := "terms.go:54", after := #[{ on := 0, ground := Ground.data }], guard := none }) (v := ?_) rfl (by kernel_rfl) (by kernel_rfl) (by kernel_rfl) (fun _ _ _ h => h) (Or.inl ⟨by rfl, ?_⟩) (by assumption) ?_
    rotate_left
    · intro w' hSw; (try dsimp only at hSw); go_simp; try with_reducible rfl
    try simp only [Act.put, List.setIfInBounds_toArray, List.set_cons_zero, List.set_cons_succ]
    refine wpAnyH_take (i := 2) (oi := { dst := some 163, op := Op.indexAddr 25 (Operand.tmp 162) (Operand.const (Value.int IntKind.i64 0)), type := 0, pos := "terms.go:54", after := #[{ on := 1, ground := Ground.data }], guard := none }) (v := ?_) rfl (by kernel_rfl) (by kernel_rfl) (by kernel_rfl) (fun _ _ _ h => h) (Or.inl ⟨by rfl, ?_⟩) (by assumption) ?_
    rotate_left
    · intro w' hSw; (try dsimp only at hSw); go_simp; try with_reducible rfl
    try simp only [Act.put, List.setIfInBounds_toArray, List.set_cons_zero, List.set_cons_succ]
    refine wpAnyH_take (i := 3) (oi := { dst := some 164, op := Op.load 27 (Operand.tmp 163), type := 27, pos := "terms.go:54", after := #[{ on := 2, ground := Ground.data }], guard := none }) (v := ?_) rfl (by kernel_rfl) (by kernel_rfl) (by kernel_rfl) (fun _ _ _ h => h) (Or.inl ⟨by rfl, ?_⟩) (by assumption) ?_
    rotate_left
    · intro w' hSw; (try dsimp only at hSw); go_simp; try with_reducible rfl
    try simp only [Act.put, List.setIfInBounds_toArray, List.set_cons_zero, List.set_cons_succ]
    refine wpAnyH_take (i := 4) (oi := { dst := some 165, op := Op.move (Operand.tmp 1), type := 22, pos := "terms.go:54", after := #[], guard := none }) (v := ?_) rfl (by kernel_rfl) (by kernel_rfl) (by kernel_rfl) (fun _ _ _ h => h) (Or.inl ⟨by rfl, ?_⟩) (by assumption) ?_
    rotate_left
    · intro w' hSw; (try dsimp only at hSw); go_simp; try with_reducible rfl
    try simp only [Act.put, List.setIfInBounds_toArray, List.set_cons_zero, List.set_cons_succ]
    refine wpAnyH_take (i := 5) (oi := { dst := some 166, op := Op.move (Operand.tmp 1), type := 22, pos := "terms.go:54", after := #[], guard := none }) (v := ?_) rfl (by kernel_rfl) (by kernel_rfl) (by kernel_rfl) (fun _ _ _ h => h) (Or.inl ⟨by rfl, ?_⟩) (by assumption) ?_
    rotate_left
    · intro w' hSw; (try dsimp only at hSw); go_simp; try with_reducible rfl
    try simp only [Act.put, List.setIfInBounds_toArray, List.set_cons_zero, List.set_cons_succ]
    refine wpAnyH_take (i := 6) (oi := { dst := some 167, op := Op.call { callee := Callee.builtin Builtin.len, args := #[Operand.tmp 166], argTypes := #[22] }, type := 3, pos := "terms.go:54", after := #[{ on := 5, ground := Ground.data }], guard := none }) (v := ?_) rfl (by kernel_rfl) (by kernel_rfl) (by kernel_rfl) (fun _ _ _ h => h) (Or.inl ⟨by rfl, ?_⟩) (by assumption) ?_
    rotate_left
    · intro w' hSw; (try dsimp only at hSw); go_simp; try with_reducible rfl
    try simp only [Act.put, List.setIfInBounds_toArray, List.set_cons_zero, List.set_cons_succ]
    refine wpAnyH_take (i := 7) (oi := { dst := some 168, op := Op.move (Operand.tmp 1), type := 22, pos := "terms.go:54", after := #[], guard := none }) (v := ?_) rfl (by kernel_rfl) (by kernel_rfl) (by kernel_rfl) (fun _ _ _ h => h) (Or.inl ⟨by rfl, ?_⟩) (by assumption) ?_
    rotate_left
    · intro w' hSw; (try dsimp only at hSw); go_simp; try with_reducible rfl
    try simp only [Act.put, List.setIfInBounds_toArray, List.set_cons_zero, List.set_cons_succ]
    refine wpAnyH_take (i := 8) (oi := { dst := some 169, op := Op.call { callee := Callee.builtin Builtin.len, args := #[Operand.tmp 168], argTypes := #[22] }, type := 3, pos := "terms.go:54", after := #[{ on := 7, ground := Ground.data }], guard := none }) (v := ?_) rfl (by kernel_rfl) (by kernel_rfl) (by kernel_rfl) (fun _ _ _ h => h) (Or.inl ⟨by rfl, ?_⟩) (by assumption) ?_
    rotate_left
    · intro w' hSw; (try dsimp only at hSw); go_simp; try with_reducible rfl
    try simp only [Act.put, List.setIfInBounds_toArray, List.set_cons_zero, List.set_cons_succ]
    refine wpAnyH_take (i := 9) (oi := { dst := some 170, op := Op.slice 22 (Operand.tmp 165) none (some (Operand.tmp 167)) (some (Operand.tmp 169)), type := 22, pos := "terms.go:54", after := #[{ on := 4, ground := Ground.data }, { on := 6, ground := Ground.data }, { on := 8, ground := Ground.data }], guard := none }) (v := ?_) rfl (by kernel_rfl) (by kernel_rfl) (by kernel_rfl) (fun _ _ _ h => h) (Or.inl ⟨by rfl, ?_⟩) (by assumption) ?_
    rotate_left
    · intro w' hSw; (try dsimp only at hSw); go_simp; try with_reducible rfl
    try simp only [Act.put, List.setIfInBounds_toArray, List.set_cons_zero, List.set_cons_succ]
    refine wpAnyH_take (i := 10) (oi := { dst := some 171, op := Op.fieldAddr 27 (Operand.tmp 2) 2, type := 0, pos := "terms.go:54", after := #[], guard := none }) (v := ?_) rfl (by kernel_rfl) (by kernel_rfl) (by kernel_rfl) (fun _ _ _ h => h) (Or.inl ⟨by rfl, ?_⟩) (by assumption) ?_
    rotate_left
    · intro w' hSw; (try dsimp only at hSw); go_simp; try with_reducible rfl
    try simp only [Act.put, List.setIfInBounds_toArray, List.set_cons_zero, List.set_cons_succ]
    refine wpAnyH_take (i := 11) (oi := { dst := some 172, op := Op.load 24 (Operand.tmp 171), type := 24, pos := "terms.go:54", after := #[{ on := 10, ground := Ground.data }], guard := none }) (v := ?_) rfl (by kernel_rfl) (by kernel_rfl) (by kernel_rfl) (fun _ _ _ h => h) (Or.inl ⟨by rfl, ?_⟩) (by assumption) ?_
    rotate_left
    · intro w' hSw; (try dsimp only at hSw); go_simp; try with_reducible rfl
    try simp only [Act.put, List.setIfInBounds_toArray, List.set_cons_zero, List.set_cons_succ]
    refine wpAnyH_ready (rs := [12, 18]) (by kernel_rfl) (by simp) ?_
    refine AllReadyH.cons (o := { dst := some 173, op := Op.buildSlice 22 1 #[(0, Operand.tmp 172)], type := 22, pos := "terms.go:54", after := #[{ on := 11, ground := Ground.data }], guard := none }) rfl (fun K hK => ?_) (AllReadyH.cons (o := { dst := some 10, op := Op.alloc 24, type := 0, pos := "terms.go:54", after := #[], guard := none }) rfl (fun K hK => ?_) AllReadyH.nil)
    · go_simp
      refine hK.out _ _ (AbS.step (by with_reducible assumption) (below_one _)) (fun hHeld => ?_)
      clear hK K
      try simp only [Act.put, List.setIfInBounds_toArray, List.set_cons_zero, List.set_cons_succ]
      refine wpAnyH_ready (rs := [13, 18]) (by kernel_rfl) (by simp) ?_
      refine AllReadyH.cons (o := { dst := some 174, op := Op.call { callee := Callee.builtin Builtin.append, args := #[Operand.tmp 170, Operand.tmp 173], argTypes := #[22, 22] }, type := 22, pos := "terms.go:54", after := #[{ on := 9, ground := Ground.data }, { on := 12, ground := Ground.data }], guard := none }) rfl (fun K hK => ?_) (AllReadyH.cons (o := { dst := some 10, op := Op.alloc 24, type := 0, pos := "terms.go:54", after := #[], guard := none }) rfl (fun K hK => ?_) AllReadyH.nil)
      · refine step_append_grows rfl (.tmp 170) (.tmp 173) 22 rfl 24 i0 _ 3 48 Try.underlying22 hi hz0 hz1 hz2 rfl (by decide) E lo.length lo.length inner rfl (fun he => ⟨hin2 he, hin2 he⟩) hin3.1 (fun b hb j u hu => pw_cell_below (below_step hbd (below_one _)) (hin1 b hb j u hu)) ⟨_, 0, none⟩ 1 1 [.bool tt.f0, .string tt.f1, .slice A tt.f2.length c] rfl rfl (cells3 (blk_new _ _)) (by intro u hu; simp at hu; rcases hu with rfl | rfl | rfl <;> rfl) (by omega) (by unfold maxLen; omega) (by omega) ?_
        intro v1 w1 hown hgr
        have hbA := pw_below_grown (Below.refl _ _) none (Nat.le_refl _) hgr (fun k hk => by cases hk)
        have hNa := AbS.step (by with_reducible assumption) hbA
        have hbw1 := below_step hVw hNa.below
        obtain ⟨g1, cap1, hv1, hl1, hg1, hg1b, hF1⟩ := env_after hown hin3 hA.1 hA.2 (fun k hk hlt => hbw1.block k hlt)
        subst hv1
        have hsz1 := hNa.below.size
        simp only [World.size_alloc, World.size_drew] at hg1b
        refine hK.out _ _ hNa (fun hHeld => ?_)
        clear hK K
        try simp only [Act.put, List.setIfInBounds_toArray, List.set_cons_zero, List.set_cons_succ]
        refine wpAnyH_ready (rs := [14, 18]) (by kernel_rfl) (by simp) ?_
        refine AllReadyH.cons (o := { dst := some 175, op := Op.call { callee := Callee.value (Operand.func 168), args := #[Operand.tmp 164, Operand.tmp 174], argTypes := #[27, 22] }, type := 99, pos := "terms.go:54", after := #[{ on := 3, ground := Ground.data }, { on := 13, ground := Ground.data }, { on := 13, ground := Ground.chain }], guard := none }) rfl (fun K hK => ?_) (AllReadyH.cons (o := { dst := some 10, op := Op.alloc 24, type := 0, pos := "terms.go:54", after := #[], guard := none }) rfl (fun K hK => ?_) AllReadyH.nil)
        · go_simp
          go_wp2_with (go_at_call 168; (with_reducible refine (ih (fun k => ok k ∨ k = g1) A7 c7 B7 d7 (some ⟨g1, 0, none⟩) cap1 _ (hbw1) (fun k hk => by rcases hk with hk | hk <;> (try have hk' := hok k hk) <;> (try simp only [World.size_alloc]) <;> omega) ((hXx.later (hbw1)).mono (fun k hk => .inl hk)) (hF1) hl1).mono ?_); rintro e w5 ⟨r5, u, rfl, hT5, hu5, hbc⟩; obtain ⟨A5, c5, hr5, l5, F5⟩ := hT5; subst hr5)
          have hNc := AbS.step (by with_reducible assumption) hbc
          have hsz5 := hNc.below.size
          refine hK.out _ _ hNc (fun hHeld => ?_)
          clear hK K
          try simp only [Act.put, List.setIfInBounds_toArray, List.set_cons_zero, List.set_cons_succ]
          refine wpAnyH_take (i := 15) (oi := { dst := some 160, op := Op.move (Operand.tmp 175), type := 99, pos := "terms.go:54", after := #[{ on := 14, ground := Ground.data }], guard := none }) (v := ?_) rfl (by kernel_rfl) (by kernel_rfl) (by kernel_rfl) (fun _ _ _ h => h) (Or.inl ⟨by rfl, ?_⟩) (by assumption) ?_
          rotate_left
          · intro w' hSw; (try dsimp only at hSw); go_simp; try with_reducible rfl
          try simp only [Act.put, List.setIfInBounds_toArray, List.set_cons_zero, List.set_cons_succ]
          refine wpAnyH_take (i := 16) (oi := { dst := some 176, op := Op.extract (Operand.tmp 160) 0, type := 24, pos := "terms.go:54", after := #[{ on := 15, ground := Ground.data }], guard := none }) (v := ?_) rfl (by kernel_rfl) (by kernel_rfl) (by kernel_rfl) (fun _ _ _ h => h) (Or.inl ⟨by rfl, ?_⟩) (by assumption) ?_
          rotate_left
          · intro w' hSw; (try dsimp only at hSw); go_simp; try with_reducible rfl
          try simp only [Act.put, List.setIfInBounds_toArray, List.set_cons_zero, List.set_cons_succ]
          refine wpAnyH_take (i := 17) (oi := { dst := some 177, op := Op.extract (Operand.tmp 160) 1, type := 4, pos := "terms.go:54", after := #[{ on := 15, ground := Ground.data }, { on := 19, ground := Ground.gcOnly Departure.lateStores }], guard := none }) (v := ?_) rfl (by kernel_rfl) (by kernel_rfl) (by kernel_rfl) (fun _ _ _ h => h) (Or.inl ⟨by rfl, ?_⟩) (by assumption) ?_
          rotate_left
          · intro w' hSw; (try dsimp only at hSw); go_simp; try with_reducible rfl
          try simp only [Act.put, List.setIfInBounds_toArray, List.set_cons_zero, List.set_cons_succ]
          refine wpAnyH_ready (rs := [18]) (by kernel_rfl) (by simp) ?_
          refine AllReadyH.cons (o := { dst := some 10, op := Op.alloc 24, type := 0, pos := "terms.go:54", after := #[], guard := none }) rfl (fun K hK => ?_) AllReadyH.nil
          go_simp
          refine hK.out _ _ (AbS.step (by with_reducible assumption) (below_one _)) (fun hHeld => ?_)
          clear hK K
          try simp only [Act.put, List.setIfInBounds_toArray, List.set_cons_zero, List.set_cons_succ]
          refine wpAnyH_ready (rs := [19]) (by kernel_rfl) (by simp) ?_
          refine AllReadyH.cons (o := { dst := none, op := Op.store 24 (Operand.tmp 10) (Operand.tmp 176), type := 0, pos := "terms.go:54", after := #[{ on := 18, ground := Ground.data }, { on := 16, ground := Ground.data }, { on := 14, ground := Ground.chain }, { on := 0, ground := Ground.phase }, { on := 1, ground := Ground.phase }, { on := 2, ground := Ground.phase }, { on := 3, ground := Ground.phase }, { on := 4, ground := Ground.phase }, { on := 5, ground := Ground.phase }, { on := 6, ground := Ground.phase }, { on := 7, ground := Ground.phase }, { on := 8, ground := Ground.phase }, { on := 9, ground := Ground.phase }, { on := 10, ground := Ground.phase }, { on := 11, ground := Ground.phase }, { on := 12, ground := Ground.phase }, { on := 13, ground := Ground.phase }, { on := 14, ground := Ground.phase }, { on := 15, ground := Ground.phase }, { on := 16, ground := Ground.phase }, { on := 17, ground := Ground.textOnly Departure.lateStores }, { on := 18, ground := Ground.phase }], guard := none }) rfl (fun K hK => ?_) AllReadyH.nil
          go_simp
          have hput := AbS.step hNc (below_one (w := w5) (.cells #[.bool u.f0, .string u.f1, .slice A5 u.f2.length c5] 24))
          refine hK.out _ _ hput (fun hHeld => ?_)
          clear hK K
          try simp only [Act.put, List.setIfInBounds_toArray, List.set_cons_zero, List.set_cons_succ]
          refine wpAnyH_take (i := 20) (oi := { dst := some 11, op := Op.assign (Operand.tmp 177), type := 4, pos := "terms.go:54", after := #[{ on := 17, ground := Ground.data }, { on := 19, ground := Ground.chain }, { on := 0, ground := Ground.phase }, { on := 1, ground := Ground.phase }, { on := 2, ground := Ground.phase }, { on := 3, ground := Ground.phase }, { on := 4, ground := Ground.phase }, { on := 5, ground := Ground.phase }, { on := 6, ground := Ground.phase }, { on := 7, ground := Ground.phase }, { on := 8, ground := Ground.phase }, { on := 9, ground := Ground.phase }, { on := 10, ground := Ground.phase }, { on := 11, ground := Ground.phase }, { on := 12, ground := Ground.phase }, { on := 13, ground := Ground.phase }, { on := 14, ground := Ground.phase }, { on := 15, ground := Ground.phase }, { on := 16, ground := Ground.phase }, { on := 17, ground := Ground.phase }, { on := 18, ground := Ground.phase }, { on := 19, ground := Ground.phase }], guard := none }) (v := ?_) rfl (by kernel_rfl) (by kernel_rfl) (by kernel_rfl) (fun _ _ _ h => h) (Or.inl ⟨by rfl, ?_⟩) (by assumption) ?_
          rotate_left
          · intro w' hSw; (try dsimp only at hSw); go_simp; try with_reducible rfl
          try simp only [Act.put, List.setIfInBounds_toArray, List.set_cons_zero, List.set_cons_succ]
          refine wpAnyH_done (by kernel_rfl) ?_ _
          go_wp2
          go_meet
          case rel =>
            try simp only [World.size_alloc] at F5
            refine ⟨w5.heap.size, u, A5, c5, rfl, rfl, ⟨⟨blk_new w5 _, ⟨l5, Kd.F_mono (Kd.F_below F5 (below_one _)) (fun k hk => ?_)⟩, hu5⟩, by omega, hput⟩⟩
            · rcases hk with (hk | hk) | hk
              · exact .inl hk
              · exact .inr (by omega)
              · exact .inr (by omega)
        · go_simp
          refine hK.out _ _ (AbS.step (by with_reducible assumption) (below_one _)) (fun hHeld => ?_)
          clear hK K
          try simp only [Act.put, List.setIfInBounds_toArray, List.set_cons_zero, List.set_cons_succ]
          refine wpAnyH_ready (rs := [14]) (by kernel_rfl) (by simp) ?_
          refine AllReadyH.cons (o := { dst := some 175, op := Op.call { callee := Callee.value (Operand.func 168), args := #[Operand.tmp 164, Operand.tmp 174], argTypes := #[27, 22] }, type := 99, pos := "terms.go:54", after := #[{ on := 3, ground := Ground.data }, { on := 13, ground := Ground.data }, { on := 13, ground := Ground.chain }], guard := none }) rfl (fun K hK => ?_) AllReadyH.nil
          go_simp
          go_wp2_with (go_at_call 168; (with_reducible refine (ih (fun k => ok k ∨ k = g1) A7 c7 B7 d7 (some ⟨g1, 0, none⟩) cap1 _ (below_step hbw1 (below_one _)) (fun k hk => by rcases hk with hk | hk <;> (try have hk' := hok k hk) <;> (try simp only [World.size_alloc]) <;> omega) ((hXx.later (below_step hbw1 (below_one _))).mono (fun k hk => .inl hk)) (Kd.F_below hF1 (below_one _)) hl1).mono ?_); rintro e w5 ⟨r5, u, rfl, hT5, hu5, hbc⟩; obtain ⟨A5, c5, hr5, l5, F5⟩ := hT5; subst hr5)
          have hNc := AbS.step (by with_reducible assumption) hbc
          have hsz5 := hNc.below.size
          refine hK.out _ _ hNc (fun hHeld => ?_)
          clear hK K
          try simp only [Act.put, List.setIfInBounds_toArray, List.set_cons_zero, List.set_cons_succ]
          refine wpAnyH_take (i := 15) (oi := { dst := some 160, op := Op.move (Operand.tmp 175), type := 99, pos := "terms.go:54", after := #[{ on := 14, ground := Ground.data }], guard := none }) (v := ?_) rfl (by kernel_rfl) (by kernel_rfl) (by kernel_rfl) (fun _ _ _ h => h) (Or.inl ⟨by rfl, ?_⟩) (by assumption) ?_
          rotate_left
          · intro w' hSw; (try dsimp only at hSw); go_simp; try with_reducible rfl
          try simp only [Act.put, List.setIfInBounds_toArray, List.set_cons_zero, List.set_cons_succ]
          refine wpAnyH_take (i := 16) (oi := { dst := some 176, op := Op.extract (Operand.tmp 160) 0, type := 24, pos := "terms.go:54", after := #[{ on := 15, ground := Ground.data }], guard := none }) (v := ?_) rfl (by kernel_rfl) (by kernel_rfl) (by kernel_rfl) (fun _ _ _ h => h) (Or.inl ⟨by rfl, ?_⟩) (by assumption) ?_
          rotate_left
          · intro w' hSw; (try dsimp only at hSw); go_simp; try with_reducible rfl
          try simp only [Act.put, List.setIfInBounds_toArray, List.set_cons_zero, List.set_cons_succ]
          refine wpAnyH_take (i := 17) (oi := { dst := some 177, op := Op.extract (Operand.tmp 160) 1, type := 4, pos := "terms.go:54", after := #[{ on := 15, ground := Ground.data }, { on := 19, ground := Ground.gcOnly Departure.lateStores }], guard := none }) (v := ?_) rfl (by kernel_rfl) (by kernel_rfl) (by kernel_rfl) (fun _ _ _ h => h) (Or.inl ⟨by rfl, ?_⟩) (by assumption) ?_
          rotate_left
          · intro w' hSw; (try dsimp only at hSw); go_simp; try with_reducible rfl
          try simp only [Act.put, List.setIfInBounds_toArray, List.set_cons_zero, List.set_cons_succ]
          have BG5 := blk_below (blk_new w1 (.cells #[.bool false, .string ⟨#[]⟩, .slice none 0 0] 24)) hbc
          obtain ⟨t0, t1, t2, t3, t4, t5, t6⟩ := box3s BG5
          refine wpAnyH_ready (rs := [19]) (by kernel_rfl) (by simp) ?_
          refine AllReadyH.cons (o := { dst := none, op := Op.store 24 (Operand.tmp 10) (Operand.tmp 176), type := 0, pos := "terms.go:54", after := #[{ on := 18, ground := Ground.data }, { on := 16, ground := Ground.data }, { on := 14, ground := Ground.chain }, { on := 0, ground := Ground.phase }, { on := 1, ground := Ground.phase }, { on := 2, ground := Ground.phase }, { on := 3, ground := Ground.phase }, { on := 4, ground := Ground.phase }, { on := 5, ground := Ground.phase }, { on := 6, ground := Ground.phase }, { on := 7, ground := Ground.phase }, { on := 8, ground := Ground.phase }, { on := 9, ground := Ground.phase }, { on := 10, ground := Ground.phase }, { on := 11, ground := Ground.phase }, { on := 12, ground := Ground.phase }, { on := 13, ground := Ground.phase }, { on := 14, ground := Ground.phase }, { on := 15, ground := Ground.phase }, { on := 16, ground := Ground.phase }, { on := 17, ground := Ground.textOnly Departure.lateStores }, { on := 18, ground := Ground.phase }], guard := none }) rfl (fun K hK => ?_) AllReadyH.nil
          go_simp
          have hput := AbS.put hVs (by omega) hNc (gb := w1.heap.size) (by omega) (.bool u.f0) (.string u.f1) (.slice A5 u.f2.length c5)
          refine hK.out _ _ hput (fun hHeld => ?_)
          clear hK K
          try simp only [Act.put, List.setIfInBounds_toArray, List.set_cons_zero, List.set_cons_succ]
          refine wpAnyH_take (i := 20) (oi := { dst := some 11, op := Op.assign (Operand.tmp 177), type := 4, pos := "terms.go:54", after := #[{ on := 17, ground := Ground.data }, { on := 19, ground := Ground.chain }, { on := 0, ground := Ground.phase }, { on := 1, ground := Ground.phase }, { on := 2, ground := Ground.phase }, { on := 3, ground := Ground.phase }, { on := 4, ground := Ground.phase }, { on := 5, ground := Ground.phase }, { on := 6, ground := Ground.phase }, { on := 7, ground := Ground.phase }, { on := 8, ground := Ground.phase }, { on := 9, ground := Ground.phase }, { on := 10, ground := Ground.phase }, { on := 11, ground := Ground.phase }, { on := 12, ground := Ground.phase }, { on := 13, ground := Ground.phase }, { on := 14, ground := Ground.phase }, { on := 15, ground := Ground.phase }, { on := 16, ground := Ground.phase }, { on := 17, ground := Ground.phase }, { on := 18, ground := Ground.phase }, { on := 19, ground := Ground.phase }], guard := none }) (v := ?_) rfl (by kernel_rfl) (by kernel_rfl) (by kernel_rfl) (fun _ _ _ h => h) (Or.inl ⟨by rfl, ?_⟩) (by assumption) ?_
          rotate_left
          · intro w' hSw; (try dsimp only at hSw); go_simp; try with_reducible rfl
          try simp only [Act.put, List.setIfInBounds_toArray, List.set_cons_zero, List.set_cons_succ]
          refine wpAnyH_done (by kernel_rfl) ?_ _
          go_wp2
          go_meet
          case rel =>
            try simp only [World.size_alloc] at F5
            refine ⟨w1.heap.size, u, A5, c5, rfl, rfl, ⟨⟨set3 (BG5), ⟨l5, ab_fin F5 (fun k hk hlt => ?_) (fun k hk => rfl) (fun k hk => ?_) _ _ _⟩, hu5⟩, by omega, hput⟩⟩
            · rcases hk with (hk | hk) | hk <;> (try have hk' := hok k hk) <;> omega
            · rcases hk with (hk | hk) | hk
              · exact .inl hk
              · exact .inr (by omega)
              · exact .inr (by omega)
      · go_simp
        refine hK.out _ _ (AbS.step (by with_reducible assumption) (below_one _)) (fun hHeld => ?_)
        clear hK K
        try simp only [Act.put, List.setIfInBounds_toArray, List.set_cons_zero, List.set_cons_succ]
        refine wpAnyH_ready (rs := [13]) (by kernel_rfl) (by simp) ?_
        refine AllReadyH.cons (o := { dst := some 174, op := Op.call { callee := Callee.builtin Builtin.append, args := #[Operand.tmp 170, Operand.tmp 173], argTypes := #[22, 22] }, type := 22, pos := "terms.go:54", after := #[{ on := 9, ground := Ground.data }, { on := 12, ground := Ground.data }], guard := none }) rfl (fun K hK => ?_) AllReadyH.nil
        refine step_append_grows rfl (.tmp 170) (.tmp 173) 22 rfl 24 i0 _ 3 48 Try.underlying22 hi hz0 hz1 hz2 rfl (by decide) E lo.length lo.length inner rfl (fun he => ⟨hin2 he, hin2 he⟩) hin3.1 (fun b hb j u hu => pw_cell_below (below_step hbd (below_two _ _)) (hin1 b hb j u hu)) ⟨_, 0, none⟩ 1 1 [.bool tt.f0, .string tt.f1, .slice A tt.f2.length c] rfl rfl (cells3 (blk_mid _ _)) (by intro u hu; simp at hu; rcases hu with rfl | rfl | rfl <;> rfl) (by omega) (by unfold maxLen; omega) (by omega) ?_
        intro v1 w1 hown hgr
        have hbA := pw_below_grown (Below.refl _ _) none (Nat.le_refl _) hgr (fun k hk => by cases hk)
        have hNa := AbS.step (by with_reducible assumption) hbA
        have hbw1 := below_step hVw hNa.below
        obtain ⟨g1, cap1, hv1, hl1, hg1, hg1b, hF1⟩ := env_after hown hin3 hA.1 hA.2 (fun k hk hlt => hbw1.block k hlt)
        subst hv1
        have hsz1 := hNa.below.size
        have BG := blk_below (blk_top (w := V.drew) (.cells #[.bool tt.f0, .string tt.f1, .slice A tt.f2.length c] 24) (.cells #[.bool false, .string ⟨#[]⟩, .slice none 0 0] 24)) hbA
        simp only [World.size_drew] at BG
        have hgne := Nat.lt_of_lt_of_le (blk_lt (blk_top (w := V.drew) (.cells #[.bool tt.f0, .string tt.f1, .slice A tt.f2.length c] 24) (.cells #[.bool false, .string ⟨#[]⟩, .slice none 0 0] 24))) hg1b
        simp only [World.size_alloc, World.size_drew] at hg1b hgne
        refine hK.out _ _ hNa (fun hHeld => ?_)
        clear hK K
        try simp only [Act.put, List.setIfInBounds_toArray, List.set_cons_zero, List.set_cons_succ]
        refine wpAnyH_ready (rs := [14]) (by kernel_rfl) (by simp) ?_
        refine AllReadyH.cons (o := { dst := some 175, op := Op.call { callee := Callee.value (Operand.func 168), args := #[Operand.tmp 164, Operand.tmp 174], argTypes := #[27, 22] }, type := 99, pos := "terms.go:54", after := #[{ on := 3, ground := Ground.data }, { on := 13, ground := Ground.data }, { on := 13, ground := Ground.chain }], guard := none }) rfl (fun K hK => ?_) AllReadyH.nil
        go_simp
        go_wp2_with (go_at_call 168; (with_reducible refine (ih (fun k => ok k ∨ k = g1) A7 c7 B7 d7 (some ⟨g1, 0, none⟩) cap1 _ (hbw1) (fun k hk => by rcases hk with hk | hk <;> (try have hk' := hok k hk) <;> (try simp only [World.size_alloc]) <;> omega) ((hXx.later (hbw1)).mono (fun k hk => .inl hk)) (hF1) hl1).mono ?_); rintro e w5 ⟨r5, u, rfl, hT5, hu5, hbc⟩; obtain ⟨A5, c5, hr5, l5, F5⟩ := hT5; subst hr5)
        have hNc := AbS.step (by with_reducible assumption) hbc
        have hsz5 := hNc.below.size
        refine hK.out _ _ hNc (fun hHeld => ?_)
        clear hK K
        try simp only [Act.put, List.setIfInBounds_toArray, List.set_cons_zero, List.set_cons_succ]
        refine wpAnyH_take (i := 15) (oi := { dst := some 160, op := Op.move (Operand.tmp 175), type := 99, pos := "terms.go:54", after := #[{ on := 14, ground := Ground.data }], guard := none }) (v := ?_) rfl (by kernel_rfl) (by kernel_rfl) (by kernel_rfl) (fun _ _ _ h => h) (Or.inl ⟨by rfl, ?_⟩) (by assumption) ?_
        rotate_left
        · intro w' hSw; (try dsimp only at hSw); go_simp; try with_reducible rfl
        try simp only [Act.put, List.setIfInBounds_toArray, List.set_cons_zero, List.set_cons_succ]
        refine wpAnyH_take (i := 16) (oi := { dst := some 176, op := Op.extract (Operand.tmp 160) 0, type := 24, pos := "terms.go:54", after := #[{ on := 15, ground := Ground.data }], guard := none }) (v := ?_) rfl (by kernel_rfl) (by kernel_rfl) (by kernel_rfl) (fun _ _ _ h => h) (Or.inl ⟨by rfl, ?_⟩) (by assumption) ?_
        rotate_left
        · intro w' hSw; (try dsimp only at hSw); go_simp; try with_reducible rfl
        try simp only [Act.put, List.setIfInBounds_toArray, List.set_cons_zero, List.set_cons_succ]
        refine wpAnyH_take (i := 17) (oi := { dst := some 177, op := Op.extract (Operand.tmp 160) 1, type := 4, pos := "terms.go:54", after := #[{ on := 15, ground := Ground.data }, { on := 19, ground := Ground.gcOnly Departure.lateStores }], guard := none }) (v := ?_) rfl (by kernel_rfl) (by kernel_rfl) (by kernel_rfl) (fun _ _ _ h => h) (Or.inl ⟨by rfl, ?_⟩) (by assumption) ?_
        rotate_left
        · intro w' hSw; (try dsimp only at hSw); go_simp; try with_reducible rfl
        try simp only [Act.put, List.setIfInBounds_toArray, List.set_cons_zero, List.set_cons_succ]
        have BG5 := blk_below (BG) hbc
        obtain ⟨t0, t1, t2, t3, t4, t5, t6⟩ := box3s BG5
        refine wpAnyH_ready (rs := [19]) (by kernel_rfl) (by simp) ?_
        refine AllReadyH.cons (o := { dst := none, op := Op.store 24 (Operand.tmp 10) (Operand.tmp 176), type := 0, pos := "terms.go:54", after := #[{ on := 18, ground := Ground.data }, { on := 16, ground := Ground.data }, { on := 14, ground := Ground.chain }, { on := 0, ground := Ground.phase }, { on := 1, ground := Ground.phase }, { on := 2, ground := Ground.phase }, { on := 3, ground := Ground.phase }, { on := 4, ground := Ground.phase }, { on := 5, ground := Ground.phase }, { on := 6, ground := Ground.phase }, { on := 7, ground := Ground.phase }, { on := 8, ground := Ground.phase }, { on := 9, ground := Ground.phase }, { on := 10, ground := Ground.phase }, { on := 11, ground := Ground.phase }, { on := 12, ground := Ground.phase }, { on := 13, ground := Ground.phase }, { on := 14, ground := Ground.phase }, { on := 15, ground := Ground.phase }, { on := 16, ground := Ground.phase }, { on := 17, ground := Ground.textOnly Departure.lateStores }, { on := 18, ground := Ground.phase }], guard := none }) rfl (fun K hK => ?_) AllReadyH.nil
        go_simp
        have hput := AbS.put hVs (by omega) hNc (gb := V.heap.size + 1) (by omega) (.bool u.f0) (.string u.f1) (.slice A5 u.f2.length c5)
        refine hK.out _ _ hput (fun hHeld => ?_)
        clear hK K
        try simp only [Act.put, List.setIfInBounds_toArray, List.set_cons_zero, List.set_cons_succ]
        refine wpAnyH_take (i := 20) (oi := { dst := some 11, op := Op.assign (Operand.tmp 177), type := 4, pos := "terms.go:54", after := #[{ on := 17, ground := Ground.data }, { on := 19, ground := Ground.chain }, { on := 0, ground := Ground.phase }, { on := 1, ground := Ground.phase }, { on := 2, ground := Ground.phase }, { on := 3, ground := Ground.phase }, { on := 4, ground := Ground.phase }, { on := 5, ground := Ground.phase }, { on := 6, ground := Ground.phase }, { on := 7, ground := Ground.phase }, { on := 8, ground := Ground.phase }, { on := 9, ground := Ground.phase }, { on := 10, ground := Ground.phase }, { on := 11, ground := Ground.phase }, { on := 12, ground := Ground.phase }, { on := 13, ground := Ground.phase }, { on := 14, ground := Ground.phase }, { on := 15, ground := Ground.phase }, { on := 16, ground := Ground.phase }, { on := 17, ground := Ground.phase }, { on := 18, ground := Ground.phase }, { on := 19, ground := Ground.phase }], guard := none }) (v := ?_) rfl (by kernel_rfl) (by kernel_rfl) (by kernel_rfl) (fun _ _ _ h => h) (Or.inl ⟨by rfl, ?_⟩) (by assumption) ?_
        rotate_left
        · intro w' hSw; (try dsimp only at hSw); go_simp; try with_reducible rfl
        try simp only [Act.put, List.setIfInBounds_toArray, List.set_cons_zero, List.set_cons_succ]
        refine wpAnyH_done (by kernel_rfl) ?_ _
        go_wp2
        go_meet
        case rel =>
          try simp only [World.size_alloc] at F5
          refine ⟨V.heap.size + 1, u, A5, c5, rfl, rfl, ⟨⟨set3 (BG5), ⟨l5, ab_fin F5 (fun k hk hlt => ?_) (fun k hk => rfl) (fun k hk => ?_) _ _ _⟩, hu5⟩, by omega, hput⟩⟩
          · rcases hk with (hk | hk) | hk <;> (try have hk' := hok k hk) <;> omega
          · rcases hk with (hk | hk) | hk
            · exact .inl hk
            · exact .inr (by omega)
            · exact .inr (by omega)
    · go_simp
      refine hK.out _ _ (AbS.step (by with_reducible assumption) (below_one _)) (fun hHeld => ?_)
      clear hK K
      try simp only [Act.put, List.setIfInBounds_toArray, List.set_cons_zero, List.set_cons_succ]
      refine wpAnyH_ready (rs := [12]) (by kernel_rfl) (by simp) ?_
      refine AllReadyH.cons (o := { dst := some 173, op := Op.buildSlice 22 1 #[(0, Operand.tmp 172)], type := 22, pos := "terms.go:54", after := #[{ on := 11, ground := Ground.data }], guard := none }) rfl (fun K hK => ?_) AllReadyH.nil
      go_simp
      refine hK.out _ _ (AbS.step (by with_reducible assumption) (below_one _)) (fun hHeld => ?_)
      clear hK K
      try simp only [Act.put, List.setIfInBounds_toArray, List.set_cons_zero, List.set_cons_succ]
      refine wpAnyH_ready (rs := [13]) (by kernel_rfl) (by simp) ?_
      refine AllReadyH.cons (o := { dst := some 174, op := Op.call { callee := Callee.builtin Builtin.append, args := #[Operand.tmp 170, Operand.tmp 173], argTypes := #[22, 22] }, type := 22, pos := "terms.go:54", after := #[{ on := 9, ground := Ground.data }, { on := 12, ground := Ground.data }], guard := none }) rfl (fun K hK => ?_) AllReadyH.nil
      refine step_append_grows rfl (.tmp 170) (.tmp 173) 22 rfl 24 i0 _ 3 48 Try.underlying22 hi hz0 hz1 hz2 rfl (by decide) E lo.length lo.length inner rfl (fun he => ⟨hin2 he, hin2 he⟩) hin3.1 (fun b hb j u hu => pw_cell_below (below_step hbd (below_two _ _)) (hin1 b hb j u hu)) ⟨_, 0, none⟩ 1 1 [.bool tt.f0, .string tt.f1, .slice A tt.f2.length c] rfl rfl (cells3 (blk_top _ _)) (by intro u hu; simp at hu; rcases hu with rfl | rfl | rfl <;> rfl) (by omega) (by unfold maxLen; omega) (by omega) ?_
      intro v1 w1 hown hgr
      have hbA := pw_below_grown (Below.refl _ _) none (Nat.le_refl _) hgr (fun k hk => by cases hk)
      have hNa := AbS.step (by with_reducible assumption) hbA
      have hbw1 := below_step hVw hNa.below
      obtain ⟨g1, cap1, hv1, hl1, hg1, hg1b, hF1⟩ := env_after hown hin3 hA.1 hA.2 (fun k hk hlt => hbw1.block k hlt)
      subst hv1
      have hsz1 := hNa.below.size
      have BG := blk_below (blk_mid (w := V.drew) (.cells #[.bool false, .string ⟨#[]⟩, .slice none 0 0] 24) (.cells #[.bool tt.f0, .string tt.f1, .slice A tt.f2.length c] 24)) hbA
      simp only [World.size_drew] at BG
      have hgne := Nat.lt_of_lt_of_le (blk_lt (blk_mid (w := V.drew) (.cells #[.bool false, .string ⟨#[]⟩, .slice none 0 0] 24) (.cells #[.bool tt.f0, .string tt.f1, .slice A tt.f2.length c] 24))) hg1b
      simp only [World.size_alloc, World.size_drew] at hg1b hgne
      refine hK.out _ _ hNa (fun hHeld => ?_)
      clear hK K
      try simp only [Act.put, List.setIfInBounds_toArray, List.set_cons_zero, List.set_cons_succ]
      refine wpAnyH_ready (rs := [14]) (by kernel_rfl) (by simp) ?_
      refine AllReadyH.cons (o := { dst := some 175, op := Op.call { callee := Callee.value (Operand.func 168), args := #[Operand.tmp 164, Operand.tmp 174], argTypes := #[27, 22] }, type := 99, pos := "terms.go:54", after := #[{ on := 3, ground := Ground.data }, { on := 13, ground := Ground.data }, { on := 13, ground := Ground.chain }], guard := none }) rfl (fun K hK => ?_) AllReadyH.nil
      go_simp
      go_wp2_with (go_at_call 168; (with_reducible refine (ih (fun k => ok k ∨ k = g1) A7 c7 B7 d7 (some ⟨g1, 0, none⟩) cap1 _ (hbw1) (fun k hk => by rcases hk with hk | hk <;> (try have hk' := hok k hk) <;> (try simp only [World.size_alloc]) <;> omega) ((hXx.later (hbw1)).mono (fun k hk => .inl hk)) (hF1) hl1).mono ?_); rintro e w5 ⟨r5, u, rfl, hT5, hu5, hbc⟩; obtain ⟨A5, c5, hr5, l5, F5⟩ := hT5; subst hr5)
      have hNc := AbS.step (by with_reducible assumption) hbc
      have hsz5 := hNc.below.size
      refine hK.out _ _ hNc (fun hHeld => ?_)
      clear hK K
      try simp only [Act.put, List.setIfInBounds_toArray, List.set_cons_zero, List.set_cons_succ]
      refine wpAnyH_take (i := 15) (oi := { dst := some 160, op := Op.move (Operand.tmp 175), type := 99, pos := "terms.go:54", after := #[{ on := 14, ground := Ground.data }], guard := none }) (v := ?_) rfl (by kernel_rfl) (by kernel_rfl) (by kernel_rfl) (fun _ _ _ h => h) (Or.inl ⟨by rfl, ?_⟩) (by assumption) ?_
      rotate_left
      · intro w' hSw; (try dsimp only at hSw); go_simp; try with_reducible rfl
      try simp only [Act.put, List.setIfInBounds_toArray, List.set_cons_zero, List.set_cons_succ]
      refine wpAnyH_take (i := 16) (oi := { dst := some 176, op := Op.extract (Operand.tmp 160) 0, type := 24, pos := "terms.go:54", after := #[{ on := 15, ground := Ground.data }], guard := none }) (v := ?_) rfl (by kernel_rfl) (by kernel_rfl) (by kernel_rfl) (fun _ _ _ h => h) (Or.inl ⟨by rfl, ?_⟩) (by assumption) ?_
      rotate_left
      · intro w' hSw; (try dsimp only at hSw); go_simp; try with_reducible rfl
      try simp only [Act.put, List.setIfInBounds_toArray, List.set_cons_zero, List.set_cons_succ]
      refine wpAnyH_take (i := 17) (oi := { dst := some 177, op := Op.extract (Operand.tmp 160) 1, type := 4, pos := "terms.go:54", after := #[{ on := 15, ground := Ground.data }, { on := 19, ground := Ground.gcOnly Departure.lateStores }], guard := none }) (v := ?_) rfl (by kernel_rfl) (by kernel_rfl) (by kernel_rfl) (fun _ _ _ h => h) (Or.inl ⟨by rfl, ?_⟩) (by assumption) ?_
      rotate_left
      · intro w' hSw; (try dsimp only at hSw); go_simp; try with_reducible rfl
      try simp only [Act.put, List.setIfInBounds_toArray, List.set_cons_zero, List.set_cons_succ]
      have BG5 := blk_below (BG) hbc
      obtain ⟨t0, t1, t2, t3, t4, t5, t6⟩ := box3s BG5
      refine wpAnyH_ready (rs := [19]) (by kernel_rfl) (by simp) ?_
      refine AllReadyH.cons (o := { dst := none, op := Op.store 24 (Operand.tmp 10) (Operand.tmp 176), type := 0, pos := "terms.go:54", after := #[{ on := 18, ground := Ground.data }, { on := 16, ground := Ground.data }, { on := 14, ground := Ground.chain }, { on := 0, ground := Ground.phase }, { on := 1, ground := Ground.phase }, { on := 2, ground := Ground.phase }, { on := 3, ground := Ground.phase }, { on := 4, ground := Ground.phase }, { on := 5, ground := Ground.phase }, { on := 6, ground := Ground.phase }, { on := 7, ground := Ground.phase }, { on := 8, ground := Ground.phase }, { on := 9, ground := Ground.phase }, { on := 10, ground := Ground.phase }, { on := 11, ground := Ground.phase }, { on := 12, ground := Ground.phase }, { on := 13, ground := Ground.phase }, { on := 14, ground := Ground.phase }, { on := 15, ground := Ground.phase }, { on := 16, ground := Ground.phase }, { on := 17, ground := Ground.textOnly Departure.lateStores }, { on := 18, ground := Ground.phase }], guard := none }) rfl (fun K hK => ?_) AllReadyH.nil
      go_simp
      have hput := AbS.put hVs (by omega) hNc (gb := V.heap.size) (by omega) (.bool u.f0) (.string u.f1) (.slice A5 u.f2.length c5)
      refine hK.out _ _ hput (fun hHeld => ?_)
      clear hK K
      try simp only [Act.put, List.setIfInBounds_toArray, List.set_cons_zero, List.set_cons_succ]
      refine wpAnyH_take (i := 20) (oi := { dst := some 11, op := Op.assign (Operand.tmp 177), type := 4, pos := "terms.go:54", after := #[{ on := 17, ground := Ground.data }, { on := 19, ground := Ground.chain }, { on := 0, ground := Ground.phase }, { on := 1, ground := Ground.phase }, { on := 2, ground := Ground.phase }, { on := 3, ground := Ground.phase }, { on := 4, ground := Ground.phase }, { on := 5, ground := Ground.phase }, { on := 6, ground := Ground.phase }, { on := 7, ground := Ground.phase }, { on := 8, ground := Ground.phase }, { on := 9, ground := Ground.phase }, { on := 10, ground := Ground.phase }, { on := 11, ground := Ground.phase }, { on := 12, ground := Ground.phase }, { on := 13, ground := Ground.phase }, { on := 14, ground := Ground.phase }, { on := 15, ground := Ground.phase }, { on := 16, ground := Ground.phase }, { on := 17, ground := Ground.phase }, { on := 18, ground := Ground.phase }, { on := 19, ground := Ground.phase }], guard := none }) (v := ?_) rfl (by kernel_rfl) (by kernel_rfl) (by kernel_rfl) (fun _ _ _ h => h) (Or.inl ⟨by rfl, ?_⟩) (by assumption) ?_
      rotate_left
      · intro w' hSw; (try dsimp only at hSw); go_simp; try with_reducible rfl
      try simp only [Act.put, List.setIfInBounds_toArray, List.set_cons_zero, List.set_cons_succ]
      refine wpAnyH_done (by kernel_rfl) ?_ _
      go_wp2
      go_meet
      case rel =>
        try simp only [World.size_alloc] at F5
        refine ⟨V.heap.size, u, A5, c5, rfl, rfl, ⟨⟨set3 (BG5), ⟨l5, ab_fin F5 (fun k hk hlt => ?_) (fun k hk => rfl) (fun k hk => ?_) _ _ _⟩, hu5⟩, by omega, hput⟩⟩
        · rcases hk with (hk | hk) | hk <;> (try have hk' := hok k hk) <;> omega
        · rcases hk with (hk | hk) | hk
          · exact .inl hk
          · exact .inr (by omega)
          · exact .inr (by omega)
  case rest =>
    obtain ⟨gb, u, A5, c5, rfl, rfl, HS⟩ := hcut
    obtain ⟨⟨BU, ⟨l5, F5⟩, hu⟩, hgb, hAB⟩ := HS.out
    have hF := HH.out.2.2.2.2.2.2.2.2
    have BZ := hAB.blk
    have hbc := below_step hVw hAB.below
    obtain ⟨x0, x1, x2, x3, x4, x5, x6, _, _, _, _, _, _, _, _, _⟩ := id hAB
    obtain ⟨s0, s1, s2, s3, s4, s5, s6⟩ := box3s BZ
    clear HS HH ih hXx hSV
    cases o with
    | none =>
      have HF := Aside0.mk (show o' = none by rw [hF]; rfl)
      clear hF BU F5 hu hAB
      go_wp2_with fail
      refine bodyPost_ret (results_ct rfl _ _ (w.heap.size + 1) 24 #[.bool false, .string ⟨#[]⟩, .slice none 0 0] (0, 0) _ rfl (set3 BZ) Try.underlying24 rfl (by kernel_rfl)) rfl ?_
      exact ⟨_, zT, by rw [HF.out]; rfl, TrF.leaf _ _ _ _, (fun v hv => by rw [HF.out] at hv; cases hv), ((hbc.setCell (by simp) _).setCell (by simp) _).setCell (by simp) _⟩
    | some b =>
      have hub := hu _ rfl
      subst hub
      have hcu := hoc _ rfl
      obtain ⟨t0, t1, t2, t3, t4, t5, t6⟩ := box3s BU
      have hsz := hAB.below.size
      have hA' := hA
      -- the row of the two types, the result
      have hW7 : ∃ W7, (((wc.setCell ⟨w.heap.size + 1, 0, none⟩ (.bool false)).setCell ⟨w.heap.size + 1, 1, none⟩ (.string ⟨#[102, 117, 110]⟩)).setCell ⟨w.heap.size + 1, 2, none⟩ (.slice (some ⟨wc.heap.size, 0, none⟩) 2 2)).alloc (.cells #[.bool tt.f0, .string tt.f1, .slice A tt.f2.length c, .bool u.f0, .string u.f1, .slice A5 u.f2.length c5] 24) = W7 := ⟨_, rfl⟩
      obtain ⟨W7, hW7⟩ := hW7
      have hgc := blk_lt BU
      have z7 : W7.heap.size = wc.heap.size + 1 := by rw [← hW7]; simp
      have BZ7 : W7.heap[w.heap.size + 1]? = some (.cells #[.bool false, .string ⟨#[102, 117, 110]⟩, .slice (some ⟨wc.heap.size, 0, none⟩) 2 2] 24 (0, 0)) := by rw [← hW7]; exact blk_alloc (set3 BZ) _
      have hR7 : W7.heap[wc.heap.size]? = some (.cells #[.bool tt.f0, .string tt.f1, .slice A tt.f2.length c, .bool u.f0, .string u.f1, .slice A5 u.f2.length c5] 24 (0, 0)) := by rw [← hW7]; simpa using blk_new (((wc.setCell ⟨w.heap.size + 1, 0, none⟩ (.bool false)).setCell ⟨w.heap.size + 1, 1, none⟩ (.string ⟨#[102, 117, 110]⟩)).setCell ⟨w.heap.size + 1, 2, none⟩ (.slice (some ⟨wc.heap.size, 0, none⟩) 2 2)) (.cells #[.bool tt.f0, .string tt.f1, .slice A tt.f2.length c, .bool u.f0, .string u.f1, .slice A5 u.f2.length c5] 24)
      have hne : ∀ k, k < wc.heap.size → k ≠ w.heap.size + 1 → W7.heap[k]? = wc.heap[k]? := fun k hlt hk => by
        rw [← hW7, (below_one (w := ((wc.setCell ⟨w.heap.size + 1, 0, none⟩ (.bool false)).setCell ⟨w.heap.size + 1, 1, none⟩ (.string ⟨#[102, 117, 110]⟩)).setCell ⟨w.heap.size + 1, 2, none⟩ (.slice (some ⟨wc.heap.size, 0, none⟩) 2 2)) (.cells #[.bool tt.f0, .string tt.f1, .slice A tt.f2.length c, .bool u.f0, .string u.f1, .slice A5 u.f2.length c5] 24)).block k (by simpa using hlt), Below.heap_setCell _ _ _ k hk, Below.heap_setCell _ _ _ k hk, Below.heap_setCell _ _ _ k hk]
      have hb7 : Below w.heap.size w W7 := by rw [← hW7]; exact below_step (((hbc.setCell (by simp) _).setCell (by simp) _).setCell (by simp) _) (below_one _)
      have hrow : Kd.F k24 W7 (fun k => ok k ∨ V.heap.size ≤ k) (some ⟨wc.heap.size, 0, none⟩) ([tt, u] : List S24).length [tt, u] := by
        refine lit_TY2 (x := tt) (y := u) (A := A) (B := A5) (c := c) (d := c5) hR7 (.inr hsz) ⟨Kd.F_mono (Kd.F_below hA'.1 hb7) (fun k hk => .inl hk), hA'.2⟩ ⟨Kd.F_step F5 (fun k hk hlt => hne k hlt ?_), l5⟩
        rcases hk with hk | hk
        · have := hok k hk; omega
        · omega
      have hfu : fit ⟨false, funN, [tt, u]⟩ := fit_fn2 hcb hcu
      have hS7 : RsS w W7 wc.heap.size W7 := RsS.mk BZ7 hb7 ⟨Nat.le_refl _, fun k hk hn => rfl⟩
      have hnz : ∀ k, (ok k ∨ V.heap.size ≤ k) → k ≠ w.heap.size + 1 := fun k hk => by
        rcases hk with hk | hk
        · have := hok k hk; omega
        · omega
      have hrw : ∀ W, RsS w W7 wc.heap.size W → Kd.F k24 W (fun k => ok k ∨ V.heap.size ≤ k) (some ⟨wc.heap.size, 0, none⟩) ([tt, u] : List S24).length [tt, u] := fun W hw => Kd.F_step hrow (fun k hk hlt => hw.2.2.2.2.2.2 k hlt (hnz k hk))
      have hck2 : ∀ W, RsS w W7 wc.heap.size W → Calls Try.prog 113 #[.agg #[.bool false, .string ⟨#[102, 117, 110]⟩, .slice (some ⟨wc.heap.size, 0, none⟩) 2 2]] W fun e W' => e = .returned (.int .i64 (if chkB ⟨false, funN, [tt, u]⟩ = true then 0 else 10)) ∧ RsS w W7 wc.heap.size W' := fun W hw =>
        (tcheck_calls ⟨false, funN, [tt, u]⟩ (some ⟨wc.heap.size, 0, none⟩) 2 W hfu (Kd.F_now (hrw W hw)) (Nat.le_refl _)).mono (fun _ _ h => And.intro h.1 (hw.step h.2))
      have hF' : o' = if chkB ⟨false, funN, [tt, u]⟩ = true then some ⟨false, funN, [tt, u]⟩ else none := hF
      clear hu hoc hF hrow hne F5 BU hfu BZ7 hb7 hA hA' hAB hR7
      generalize hcv : chkB ⟨false, funN, [tt, u]⟩ = cv at *
      have HF := Aside0.mk hF'
      clear hF' hcv
      cases cv
      all_goals
        go_wp2_with fail
        try rw [hW7]
        clear hW7
        have hK0 := hS7.step (below_drew1 (Below.refl _ _))
        go_region_held3 (fun W => RsS w W7 wc.heap.size W)
          (first | (with_reducible exact hK0) | (with_reducible assumption) | (with_reducible exact RsS.put (by with_reducible assumption)))
          (first | (go_at_call 113; (with_reducible refine (hck2 _ (by with_reducible assumption)).mono ?_); rintro e w9 ⟨rfl, hN9⟩; obtain ⟨r0, r1, r2, r3, r4, r5, r6⟩ := box3s hN9.1))
        all_goals
          go_wp2_with fail
          refine bodyPost_ret (results_ct rfl _ _ (w.heap.size + 1) 24 #[.bool false, .string ⟨#[102, 117, 110]⟩, .slice (some ⟨wc.heap.size, 0, none⟩) 2 2] (0, 0) _ rfl hN9.put.1 Try.underlying24 rfl (by kernel_rfl)) rfl ?_
          exact ⟨_, ⟨false, funN, [tt, u]⟩, by rw [HF.out]; rfl, ⟨some ⟨wc.heap.size, 0, none⟩, 2, rfl, Nat.le_refl _, Kd.F_mono (hrw _ hN9.put) (fun k hk => hk.imp id (fun h => by omega))⟩, (fun v hv => by rw [HF.out] at hv; first | (exact Option.some.inj hv) | cases hv), hN9.put.2.2.2.2.1⟩
end Go.Proofs.Ytecplbgdalchdaa.Q
/- Proved here: what terms.formed answers. Conditions: those that each theorem names. -/
namespace Go.Proofs.Ytecplbgdalchdaa.Q
open Go.RowKit Go.Shelf Go.Proofs.YtecplbgdalchdaaW.PrintWords Go.Proofs.YtecplbgdalchdaaW.PrintMore
set_option linter.unusedVariables false
set_option linter.unusedSimpArgs false
attribute [local go_sem] Oper.semAt_some

set_option maxHeartbeats 4000000 in
set_option maxRecDepth 100000 in
theorem formed_comb0 (t : S27) (l : List S24) (hk : t.f0 = 4) (h4 : t.f4.length ≠ 2) (A : Option Addr) (c : Nat) (B : Option Addr) (d : Nat) (E : Option Addr) (n ce : Nat) (w : World) (ok : Nat → Prop) (hX : RdF w ok t A c B d) :
    Calls Try.prog 168 #[.agg #[.int .u8 t.f0, .string t.f1, .bool t.f2.f0, .string t.f2.f1, .slice A t.f2.f2.length c, .int .i64 t.f3, .slice B t.f4.length d], .slice E n ce] w (FormPost w ok (formM t l)) := by
  have hS0 := FmS.start w t A c B d
  have BR := (two_new w (.cells #[.int .u8 t.f0, .string t.f1, .bool t.f2.f0, .string t.f2.f1, .slice A t.f2.f2.length c, .int .i64 t.f3, .slice B t.f4.length d] 27) (.cells #[.bool false, .string ⟨#[]⟩, .slice none 0 0] 24)).2.2
  have hpl := fun W (hw : Below w.heap.size w W) => terms_plain.calls t.f0 t.f1 t.f2.f0 t.f2.f1 A c t.f2.f2 t.f3 B d t.f4 false false false _ W (hX.at hw).1.1 hX.1.2 (hX.at hw).2.1 hX.2.2 (plain_fff t)
  have HF := Aside0.mk (formM_comb2 t l hk h4)
  have q1 : (t.f0 == 1) = false := by rw [hk]; rfl
  have q2 : (t.f0 == 2) = false := by rw [hk]; rfl
  have q3 : (t.f0 == 3) = false := by rw [hk]; rfl
  have q4 : (t.f0 == 4) = true := by rw [hk]; rfl
  have r1 : ((t.f4.length : Int) != 2) = true := bne_iff_ne.mpr (by omega)
  have r2 : ((t.f4.length : Int) == 2) = false := beq_eq_false_iff_ne.mpr (by omega)
  have r3 : decide (t.f4.length = 2) = false := decide_eq_false h4
  obtain ⟨x0, x1, x2, x3, x4, x5, x6, _, hb⟩ := id hS0
  clear hk hX h4
  generalize (t.f1.size == 0 && isZ t.f2 && t.f3 == 0) = pz at *
  cases pz
  all_goals
    go_enter Try.func168, Try.ntmps168
    go_wp2_with (first
      | (go_at_call 209; (with_reducible refine (hpl _ hS0.below).mono ?_); rintro e w3 ⟨rfl, hb3⟩; have hN := hS0.step hb3; have BR3 := blk_below BR hb3; obtain ⟨x0, x1, x2, x3, x4, x5, x6, _, hb⟩ := id hN; obtain ⟨s0, s1, s2, s3, s4, s5, s6⟩ := box3s BR3))
    refine bodyPost_ret (results_ct rfl _ _ (w.heap.size + 1) 24 #[.bool false, .string ⟨#[]⟩, .slice none 0 0] (0, 0) _ rfl (set3 BR3) Try.underlying24 rfl (by kernel_rfl)) rfl ?_
    exact ⟨_, zT, by rw [HF.out]; rfl, TrF.leaf _ _ _ _, (fun v hv => by rw [HF.out] at hv; cases hv), ((hb.setCell (by simp) _).setCell (by simp) _).setCell (by simp) _⟩
theorem formed_calls : ∀ (n : Nat) (t : S27) (lo : List S24) (ok : Nat → Prop) (A : Option Addr) (c : Nat) (B : Option Addr) (d : Nat) (E : Option Addr) (ce : Nat) (w : World), szM t ≤ n → fitM t → lo.length + dpM t ≤ 1000000 → (∀ y, y ∈ lo → chkB y = true) → (∀ k, ok k → k < w.heap.size) →
    RdF w ok t A c B d → Kd.F k24 w ok E lo.length lo → lo.length ≤ ce → Calls Try.prog 168 #[.agg #[.int .u8 t.f0, .string t.f1, .bool t.f2.f0, .string t.f2.f1, .slice A t.f2.f2.length c, .int .i64 t.f3, .slice B t.f4.length d], .slice E lo.length ce] w (FormPost w ok (formM t lo.reverse))
  | 0, t, _, _, _, _, _, _, _, _, _, h, _, _, _, _, _, _, _ => by have := szM_pos t; omega
  | n + 1, t, lo, ok, A, c, B, d, E, ce, w, hn, hf, hl, hlc, hok, hX, hE, hce => by
    obtain ⟨hn1, hf1, _⟩ := allM_top hf.1
    by_cases k1 : t.f0 = 1 ∨ t.f0 = 2
    · exact formed_leaf t lo.reverse k1 A c B d E lo.length ce w ok hX hn1 hf1
    by_cases k3 : t.f0 = 3
    · exact formed_bound t lo k3 A c B d E ce w ok hX hE hce
    by_cases k4 : t.f0 = 4
    · by_cases h2 : t.f4.length = 2
      · all_goals
          obtain ⟨tk, tn, tt, ti, ts⟩ := t
          dsimp only at k4 h2 hX hn1 hf1 hf hl hn
          subst k4
          obtain ⟨x, y, rfl⟩ : ∃ x y, ts = [x, y] := by
            match ts, h2 with
            | [x, y], _ => exact ⟨x, y, rfl⟩
          have dx := dpM_sub (t := (⟨4, tn, tt, ti, [x, y]⟩ : S27)) (x := x) (by simp)
          have dy := dpM_sub (t := (⟨4, tn, tt, ti, [x, y]⟩ : S27)) (x := y) (by simp)
          have sx := szM_sub (t := (⟨4, tn, tt, ti, [x, y]⟩ : S27)) (x := x) (by simp)
          have sy := szM_sub (t := (⟨4, tn, tt, ti, [x, y]⟩ : S27)) (x := y) (by simp)
          exact formed_comb tn tt ti x y lo A c B d E ce w ok hok hX
            (fun A c B d W hb hx => formed_calls n x lo ok A c B d E ce W (by omega) (fitM_sub hf (by simp)) (by omega) hlc (fun k hk => Nat.lt_of_lt_of_le (hok k hk) hb.size) hx (Kd.F_below hE hb) hce)
            (fun A c B d W hb hx => formed_calls n y lo ok A c B d E ce W (by omega) (fitM_sub hf (by simp)) (by omega) hlc (fun k hk => Nat.lt_of_lt_of_le (hok k hk) hb.size) hx (Kd.F_below hE hb) hce)
      · exact formed_comb0 t lo.reverse k4 h2 A c B d E lo.length ce w ok hX
    by_cases k5 : t.f0 = 5
    · by_cases h5 : t.f3 = 0 ∧ t.f4.length = 1 ∧ nmV t.f1 = true ∧ chkB t.f2 = true
      · obtain ⟨tk, tn, tt, ti, ts⟩ := t
        dsimp only at k5 h5 hX hn1 hf1 hf hl hn
        obtain ⟨rfl, h1, h2, h3⟩ := h5
        subst k5
        obtain ⟨x, rfl⟩ : ∃ x, ts = [x] := by
          match ts, h1 with
          | [x], _ => exact ⟨x, rfl⟩
        have dx := dpM_sub (t := (⟨5, tn, tt, 0, [x]⟩ : S27)) (x := x) (by simp)
        have sx := szM_sub (t := (⟨5, tn, tt, 0, [x]⟩ : S27)) (x := x) (by simp)
        exact formed_abs tn tt x lo h2 h3 hn1 hf1 (by omega) hlc A c B d E ce w ok hok hX hE hce
          (fun ok' A c B d E' ce' W hb hok' hx hE' hce' => formed_calls n x (lo ++ [tt]) ok' A c B d E' ce' W (by omega) (fitM_sub hf (by simp)) (by simp; omega) (fun y hy => by
            rcases List.mem_append.1 hy with hy | hy
            · exact hlc y hy
            · rw [List.mem_singleton.1 hy]; exact h3) hok' hx hE' hce')
      · exact formed_abs0 t lo.reverse k5 h5 A c B d E lo.length ce w ok hX hn1 hf1
    · exact formed_odd t lo.reverse (by omega) (by omega) k3 k4 k5 A c B d E lo.length ce w ok
end Go.Proofs.Ytecplbgdalchdaa.Q
/- Proved here: the contracts of terms.typed, Check and TypeOf. Conditions: those that each theorem names. -/
namespace Go.Proofs.Ytecplbgdalchdaa.Q
open Go.RowKit Go.Shelf Go.Proofs.YtecplbgdalchdaaW.PrintWords Go.Proofs.YtecplbgdalchdaaW.PrintMore
set_option linter.unusedVariables false
set_option linter.unusedSimpArgs false
attribute [local go_sem] Oper.semAt_some

theorem extent_ev (t : S27) : szM t ≤ 4611686018427387904 → Ev (fun k => terms_extent.f k t.f0 t.f1 t.f2.f0 t.f2.f1 t.f2.f2 t.f3 t.f4) ((szM t : Int), (dpM t : Int)) := by
  induction t using M_ind with
  | _ t ih =>
  intro hb
  have hd := dpM_le t
  rw [szM_eq] at hb hd
  rw [dpM_eq] at hd
  rw [szM_eq, dpM_eq]
  refine Ev.succ ?_
  simp only [terms_extent.f]
  have hl := szML_len t.f4
  refine Ev.cong (down (fun j => Ev (fun k => terms_extent.l0 k ((1 + szML (t.f4.take j) : Nat) : Int) ((dpML (t.f4.take j) : Nat) : Int) t.f4 (t.f4.length : Int) (j : Int)) (((szML t.f4 + 1 : Nat) : Int), ((dpML t.f4 + 1 : Nat) : Int))) t.f4.length ?_ ?_) (fun k => by simp [szML, dpML])
  · refine Ev.succ ?_
    simp only [terms_extent.l0, List.take_length]
    refine Ev.neg (by omega) ((Ev.pure _).val ?_)
    rw [w64 (by omega) (by omega)]
    ext <;> simp <;> omega
  · intro j hj h
    refine Ev.succ ?_
    have hle := szML_le t.f4 j hj
    simp only [terms_extent.l0]
    refine Ev.pos (by omega) (Ev.pos (by omega) (Ev.pos (by omega) ?_))
    rw [rdM t.f4 j hj]
    refine Ev.bind (ih _ (List.getElem_mem hj) (by omega)) ?_
    rw [w64s (by omega), w64 (by omega) (by omega), mx_nat]
    rw [szML_take t.f4 j hj, dpML_take t.f4 j hj] at h
    exact h.cong (fun k => by congr 1; omega)
theorem greatM_ev (t : S27) (h : szM t ≤ 4611686018427387904) : Ev (fun k => terms_great.f k t.f0 t.f1 t.f2.f0 t.f2.f1 t.f2.f2 t.f3 t.f4) (bigM t) := by
  simp only [terms_great.f]
  refine Ev.bind (extent_ev t h) (Ev.ite (fun e => (Ev.pure _).val ?_) (fun e => (Ev.pure _).val ?_))
  · unfold bigM
    rw [decide_eq_true (show 32000 < szM t by simp at e; omega)]
    rfl
  · unfold bigM
    rw [decide_eq_false (show ¬ 32000 < szM t by simp at e; omega), Bool.false_or]
    exact decide_eq_decide.2 (Iff.intro (fun h => by simp at h; omega) (fun h => by simp; omega))
def TypPost (w : World) (ok : Nat → Prop) (t : S27) (e : Ending) (w' : World) : Prop := ∃ r, e = .returned (.tuple #[r, .int .i64 (chkM t)]) ∧ TrF w' (fun k => ok k ∨ w.heap.size ≤ k) r (tyoM t).1 ∧ Below w.heap.size w w'
set_option maxHeartbeats 4000000 in
set_option maxRecDepth 100000 in
theorem typed_calls (t : S27) (hf : fitM t) (A : Option Addr) (c : Nat) (B : Option Addr) (d : Nat) (w : World) (ok : Nat → Prop) (hok : ∀ k, ok k → k < w.heap.size) (hX : RdF w ok t A c B d) :
    Calls Try.prog 98 #[.agg #[.int .u8 t.f0, .string t.f1, .bool t.f2.f0, .string t.f2.f1, .slice A t.f2.f2.length c, .int .i64 t.f3, .slice B t.f4.length d]] w (TypPost w ok t) := by
  have hS0 := FmS.start w t A c B d
  have BR := (two_new w (.cells #[.int .u8 t.f0, .string t.f1, .bool t.f2.f0, .string t.f2.f1, .slice A t.f2.f2.length c, .int .i64 t.f3, .slice B t.f4.length d] 27) (.cells #[.bool false, .string ⟨#[]⟩, .slice none 0 0] 24)).2.2
  obtain ⟨kg, hkg⟩ := (greatM_ev t (by have := hf.2; omega)).at
  have hgr := fun W (hw : Below w.heap.size w W) => terms_great.calls kg t.f0 t.f1 t.f2.f0 t.f2.f1 A c t.f2.f2 t.f3 B d t.f4 _ W (hX.at hw).1.1 hX.1.2 (hX.at hw).2.1 hX.2.2 hkg
  have hdp := dpM_le t
  have hfo := fun W (hw : Below w.heap.size w W) => formed_calls _ t [] ok A c B d none 0 W (Nat.le_refl _) hf (by have := hf.2; simp; omega) (fun y hy => by cases hy) (fun k hk => Nat.lt_of_lt_of_le (hok k hk) hw.size) (hX.later hw) (nilF _ _ _) (Nat.le_refl _)
  obtain ⟨x0, x1, x2, x3, x4, x5, x6, _, hb⟩ := id hS0
  clear hkg hf hX hdp
  rcases chkM_cases t with ⟨h1, h2⟩ | ⟨h1, h2, h3⟩ | ⟨h1, h2, h3⟩
  · rw [h1] at hgr
    have HC := Aside0.mk h2
    have HT := Aside0.mk (show (tyoM t).1 = zT by unfold tyoM; rw [h2]; rfl)
    clear h1 h2 hfo
    go_enter Try.func98, Try.ntmps98
    go_wp2_with (first
      | (go_at_call 108; (with_reducible refine (hgr _ hS0.below).mono ?_); rintro e w3 ⟨rfl, hb3⟩; have hN := hS0.step hb3; have BR3 := blk_below BR hb3; obtain ⟨x0, x1, x2, x3, x4, x5, x6, _, hb⟩ := id hN; obtain ⟨s0, s1, s2, s3, s4, s5, s6⟩ := box3s BR3))
    refine bodyPost_ret (results_ct rfl _ _ (w.heap.size + 1) 24 #[.bool false, .string ⟨#[]⟩, .slice none 0 0] (0, 0) _ rfl (set3 BR3) Try.underlying24 rfl (by kernel_rfl)) rfl ?_
    exact ⟨_, by rw [HC.out]; rfl, by rw [HT.out]; exact TrF.leaf _ _ _ _, ((hb.setCell (by simp) _).setCell (by simp) _).setCell (by simp) _⟩
  · rw [h1] at hgr
    have HC := Aside0.mk h3
    have HT := Aside0.mk (show (tyoM t).1 = typM t by unfold tyoM; rw [h3]; rfl)
    obtain ⟨v, hv⟩ := Option.isSome_iff_exists.1 h2
    have HV := Aside0.mk (show typM t = v by unfold typM; rw [hv]; rfl)
    rw [show ([] : List S24).reverse = [] from rfl, hv] at hfo
    clear h1 h2 h3 hv
    go_enter Try.func98, Try.ntmps98
    go_wp2_with (first
      | (go_at_call 168; refine (hfo _ hN.below).mono ?_; rintro e w4 ⟨r5, u, rfl, hT5, hu5, hb4⟩; obtain ⟨A5, c5, hr5, l5, F5⟩ := hT5; subst hr5; (first | (have hu' := hu5 _ rfl; subst hu'; clear hu5) | clear hu5); have hb4' := below_step hb4 (below_one (w := w4) (.cells #[.bool u.f0, .string u.f1, .slice A5 u.f2.length c5] 24)); have BU := blk_new w4 (.cells #[.bool u.f0, .string u.f1, .slice A5 u.f2.length c5] 24); have hN4 := hN.step hb4'; have BR4 := blk_below BR3 hb4'; obtain ⟨x0, x1, x2, x3, x4, x5, x6, _, hb⟩ := id hN4; obtain ⟨s0, s1, s2, s3, s4, s5, s6⟩ := box3s BR4; obtain ⟨t0, t1, t2, t3, t4, t5, t6⟩ := box3s BU)
      | (go_at_call 108; (with_reducible refine (hgr _ hS0.below).mono ?_); rintro e w3 ⟨rfl, hb3⟩; have hN := hS0.step hb3; have BR3 := blk_below BR hb3; obtain ⟨x0, x1, x2, x3, x4, x5, x6, _, hb⟩ := id hN; obtain ⟨s0, s1, s2, s3, s4, s5, s6⟩ := box3s BR3))
    refine bodyPost_ret (results_ct rfl _ _ (w.heap.size + 1) 24 #[.bool u.f0, .string u.f1, .slice A5 u.f2.length c5] (0, 0) _ rfl (set3 BR4) Try.underlying24 rfl (by kernel_rfl)) rfl ?_
    have hlt := blk_lt BR3
    have hz3 := hN.below.size
    have hne : ∀ k, (ok k ∨ w3.heap.size ≤ k) → k ≠ w.heap.size + 1 := fun k hk => hk.elim (fun h => by have := hok k h; omega) (fun h => by omega)
    refine ⟨_, by rw [HC.out]; rfl, ?_, ((hb.setCell (by simp) _).setCell (by simp) _).setCell (by simp) _⟩
    rw [HT.out, HV.out]
    refine ⟨A5, c5, rfl, l5, Kd.F_mono (Kd.F_step F5 (fun k hk hlt2 => ?_)) (fun k hk => hk.imp id (fun h => by omega))⟩
    rw [Below.heap_setCell _ _ _ k (hne k hk), Below.heap_setCell _ _ _ k (hne k hk), Below.heap_setCell _ _ _ k (hne k hk)]
    exact (below_one (w := w4) _).block k hlt2
  · rw [h1] at hgr
    have HC := Aside0.mk h3
    have HT := Aside0.mk (show (tyoM t).1 = zT by unfold tyoM; rw [h3]; rfl)
    have hn : formM t [] = none := by
      cases hq : formM t [] with
      | none => rfl
      | some v => rw [hq] at h2; cases h2
    rw [show ([] : List S24).reverse = [] from rfl, hn] at hfo
    clear h1 h2 h3 hn
    go_enter Try.func98, Try.ntmps98
    go_wp2_with (first
      | (go_at_call 168; refine (hfo _ hN.below).mono ?_; rintro e w4 ⟨r5, u, rfl, hT5, hu5, hb4⟩; obtain ⟨A5, c5, hr5, l5, F5⟩ := hT5; subst hr5; (first | (have hu' := hu5 _ rfl; subst hu'; clear hu5) | clear hu5); have hb4' := below_step hb4 (below_one (w := w4) (.cells #[.bool u.f0, .string u.f1, .slice A5 u.f2.length c5] 24)); have BU := blk_new w4 (.cells #[.bool u.f0, .string u.f1, .slice A5 u.f2.length c5] 24); have hN4 := hN.step hb4'; have BR4 := blk_below BR3 hb4'; obtain ⟨x0, x1, x2, x3, x4, x5, x6, _, hb⟩ := id hN4; obtain ⟨s0, s1, s2, s3, s4, s5, s6⟩ := box3s BR4; obtain ⟨t0, t1, t2, t3, t4, t5, t6⟩ := box3s BU)
      | (go_at_call 108; (with_reducible refine (hgr _ hS0.below).mono ?_); rintro e w3 ⟨rfl, hb3⟩; have hN := hS0.step hb3; have BR3 := blk_below BR hb3; obtain ⟨x0, x1, x2, x3, x4, x5, x6, _, hb⟩ := id hN; obtain ⟨s0, s1, s2, s3, s4, s5, s6⟩ := box3s BR3))
    refine bodyPost_ret (results_ct rfl _ _ (w.heap.size + 1) 24 #[.bool false, .string ⟨#[]⟩, .slice none 0 0] (0, 0) _ rfl (set3 BR4) Try.underlying24 rfl (by kernel_rfl)) rfl ?_
    exact ⟨_, by rw [HC.out]; rfl, by rw [HT.out]; exact TrF.leaf _ _ _ _, ((hb.setCell (by simp) _).setCell (by simp) _).setCell (by simp) _⟩
set_option maxHeartbeats 2000000 in
set_option maxRecDepth 100000 in
theorem chkM_calls (t : S27) (hf : fitM t) (A : Option Addr) (c : Nat) (B : Option Addr) (d : Nat) (w : World) (hX : RdM w t A c B d) :
    Calls Try.prog 29 #[.agg #[.int .u8 t.f0, .string t.f1, .bool t.f2.f0, .string t.f2.f1, .slice A t.f2.f2.length c, .int .i64 t.f3, .slice B t.f4.length d]] w fun e w' => e = .returned (.int .i64 (chkM t)) ∧ Below w.heap.size w w' := by
  have hXF : RdF w (fun k => k < w.heap.size) t A c B d := ⟨⟨Kd.C_F k24_heap hX.1.1, hX.1.2⟩, Kd.C_F k27_heap hX.2.1, hX.2.2⟩
  have hb0 := below_one (w := w) (.cells #[.int .u8 t.f0, .string t.f1, .bool t.f2.f0, .string t.f2.f1, .slice A t.f2.f2.length c, .int .i64 t.f3, .slice B t.f4.length d] 27)
  have hty := typed_calls t hf A c B d (w.alloc (.cells #[.int .u8 t.f0, .string t.f1, .bool t.f2.f0, .string t.f2.f1, .slice A t.f2.f2.length c, .int .i64 t.f3, .slice B t.f4.length d] 27)) (fun k => k < w.heap.size) (fun k hk => by simp; omega) (hXF.later hb0)
  obtain ⟨x0, x1, x2, x3, x4, x5, x6⟩ := box7 (blk_new w (.cells #[.int .u8 t.f0, .string t.f1, .bool t.f2.f0, .string t.f2.f1, .slice A t.f2.f2.length c, .int .i64 t.f3, .slice B t.f4.length d] 27))
  clear hX hXF
  go_enter Try.func29, Try.ntmps29
  go_wp2_with (go_at_call 98; (with_reducible refine hty.mono ?_); rintro e w3 ⟨r, rfl, hT, hb3⟩; obtain ⟨A5, c5, hr5, l5, F5⟩ := hT; subst hr5)
  go_ret
  exact ⟨rfl, below_step (below_step hb0 hb3) (below_one _)⟩
end Go.Proofs.Ytecplbgdalchdaa.Q
/- Proved here: the contract of terms.TypeOf. Conditions: those that each theorem names. -/
namespace Go.Proofs.Ytecplbgdalchdaa.Q
open Go.RowKit Go.Shelf Go.Proofs.YtecplbgdalchdaaW.PrintWords Go.Proofs.YtecplbgdalchdaaW.PrintMore
set_option linter.unusedVariables false
set_option linter.unusedSimpArgs false
attribute [local go_sem] Oper.semAt_some

theorem tyoM_sz (t : S27) : szT (tyoM t).1 ≤ 500 := by
  unfold tyoM
  split
  · rename_i h
    exact (chkB_sh (typM_chk h)).2.1
  · simp [zT, szT, szL]
set_option maxHeartbeats 4000000 in
set_option maxRecDepth 100000 in
theorem tyoM_calls (t : S27) (hf : fitM t) (A : Option Addr) (c : Nat) (B : Option Addr) (d : Nat) (w : World) (hX : RdM w t A c B d) :
    Calls Try.prog 20 #[.agg #[.int .u8 t.f0, .string t.f1, .bool t.f2.f0, .string t.f2.f1, .slice A t.f2.f2.length c, .int .i64 t.f3, .slice B t.f4.length d]] w fun e w' => ∃ r, e = .returned (.tuple #[r, .int .i64 (chkM t)]) ∧ Tr w' r (tyoM t).1 ∧ Below w.heap.size w w' := by
  have hXF : RdF w (fun k => k < w.heap.size) t A c B d := ⟨⟨Kd.C_F k24_heap hX.1.1, hX.1.2⟩, Kd.C_F k27_heap hX.2.1, hX.2.2⟩
  have hS0 := FmS.start w t A c B d
  have BR := (two_new w (.cells #[.int .u8 t.f0, .string t.f1, .bool t.f2.f0, .string t.f2.f1, .slice A t.f2.f2.length c, .int .i64 t.f3, .slice B t.f4.length d] 27) (.cells #[.bool false, .string ⟨#[]⟩, .slice none 0 0] 24)).2.2
  have hty := typed_calls t hf A c B d _ (fun k => k < w.heap.size) (fun k hk => Nat.lt_of_lt_of_le hk hS0.below.size) (hXF.later hS0.below)
  have hsz := tyoM_sz t
  obtain ⟨x0, x1, x2, x3, x4, x5, x6, _, hb⟩ := id hS0
  clear hX hXF
  have htw := fun u A5 c5 W (hu : szT u ≤ 500) hC hl => twin_calls (szT u) u A5 c5 W (Nat.le_refl _) (by omega) hC hl
  unfold TypPost at hty
  generalize (tyoM t).1 = u at *
  go_enter Try.func20, Try.ntmps20
  go_wp2_with (first
    | (go_at_call 99; (with_reducible refine (htw u A5 c5 _ hsz C5 l5).mono ?_); rintro e w5 ⟨v, rfl, hT, hb5⟩; obtain ⟨A6, c6, hv6, hl6, hC6⟩ := hT.reads; subst hv6; have BR5 := blk_below BR3 hb5; obtain ⟨s0, s1, s2, s3, s4, s5, s6⟩ := box3s BR5)
    | (go_at_call 98; (with_reducible refine hty.mono ?_); rintro e w3 ⟨r, rfl, hT, hb3⟩; obtain ⟨A5, c5, hr5, l5, F5⟩ := hT; subst hr5; have hb3' := below_step hb3 (below_one (w := w3) (.cells #[.bool u.f0, .string u.f1, .slice A5 u.f2.length c5] 24)); have BR3 := blk_below BR hb3'; have C5 := Kd.C_below (Kd.F_now F5) (below_one (w := w3) (.cells #[.bool u.f0, .string u.f1, .slice A5 u.f2.length c5] 24)); have BU := blk_new w3 (.cells #[.bool u.f0, .string u.f1, .slice A5 u.f2.length c5] 24); obtain ⟨t0, t1, t2, t3, t4, t5, t6⟩ := box3s BU))
  have hlt := blk_lt BR3
  have hbf := (((below_step (below_step hb hb3') hb5).setCell (p := ⟨w.heap.size + 1, 0, none⟩) (by simp) (.bool u.f0)).setCell (p := ⟨w.heap.size + 1, 1, none⟩) (by simp) (.string u.f1)).setCell (p := ⟨w.heap.size + 1, 2, none⟩) (by simp) (.slice A6 u.f2.length c6)
  refine bodyPost_ret (results_ct rfl _ _ (w.heap.size + 1) 24 #[.bool u.f0, .string u.f1, .slice A6 u.f2.length c6] (0, 0) _ rfl (set3 BR5) Try.underlying24 rfl (by kernel_rfl)) rfl ?_
  refine ⟨_, rfl, Tr.of_WT (((hT.far _ _ ?_).far _ _ ?_).far _ _ ?_), hbf⟩
  all_goals (intro k hk; show k ≠ w.heap.size + 1; omega)
theorem tyoM_tr (t : S27) (hf : fitM t) (a : Value) (w : World) (ha : TrM w a t) : Calls Try.prog 20 #[a] w fun e w' => ∃ r, e = .returned (.tuple #[r, .int .i64 (chkM t)]) ∧ Tr w' r (tyoM t).1 ∧ Below w.heap.size w w' := by
  obtain ⟨A, c, B, d, rfl, hX⟩ := ha
  exact tyoM_calls t hf A c B d w hX
end Go.Proofs.Ytecplbgdalchdaa.Q
