/- Proved here: parts of the proof of a given statement (HRowTermsTyvars): contracts of the functions that it reaches, what they answer, and in the last text the statement itself. Conditions: those that each theorem names. -/
import Derived.Test.YtecplbgdalchdaaZTVX10
import Derived.Test.YtecplbgdalchdaaZTVX14
import Derived.Test.YtecplbgdalchdaaZTVX15
import Derived.Test.YtecplbgdalchdaaZTVX13
import Derived.Deep.AppendLies
import Derived.Test.YtecplbgdalchdaaZTVX9
import Derived.Test.YtecplbgdalchdaaZTVX7
import Derived.Test.YtecplbgdalchdaaZTVX6
import Derived.Deep.RegionHeld3
import Derived.Laws.OwnMore
import Derived.Test.YtecplbgdalchdaaZTVX4
/- Proved here: the contracts of terms.both and whole. Conditions: those that each theorem names. -/
namespace Go.Proofs.Ytecplbgdalchdaa.Q
open Go.RowKit Go.Shelf Go.Proofs.YtecplbgdalchdaaW.PrintWords Go.Proofs.YtecplbgdalchdaaW.PrintMore
set_option linter.unusedVariables false
set_option linter.unusedSimpArgs false
attribute [local go_sem] Oper.semAt_some

set_option maxHeartbeats 2000000 in
set_option maxRecDepth 100000 in
theorem both_tr (x y : S27) (hfx : fitM x) (hfy : fitM y) (a b : Value) (w : World) (ha : TrM w a x) (hb : TrM w b y) : Calls Try.prog 109 #[a, b] w fun e w' => e = .returned (.int .i64 (bothE x y)) ∧ Below w.heap.size w w' := by
  obtain ⟨A, c, B, d, rfl, hx⟩ := ha
  obtain ⟨A', c', B', d', rfl, hy⟩ := hb
  have hS0 := TwoM.start w x y A c B d A' c' B' d'
  have ex := fun W (hw : TwoM w x y A c B d A' c' B' d' W) => (chkM_calls x hfx A c B d W (hx.later hw.below)).mono (fun _ _ h => And.intro h.1 (hw.step h.2))
  have ey := fun W (hw : TwoM w x y A c B d A' c' B' d' W) => (chkM_calls y hfy A' c' B' d' W (hy.later hw.below)).mono (fun _ _ h => And.intro h.1 (hw.step h.2))
  obtain ⟨x0, x1, x2, x3, x4, x5, x6, y0, y1, y2, y3, y4, y5, y6, hb⟩ := id hS0
  have hE : bothE x y = if chkM x = 0 then chkM y else chkM x := rfl
  clear hx hy
  generalize chkM x = p at *
  generalize chkM y = q at *
  have HE := Aside0.mk hE
  clear hE
  by_cases hp : p = 0
  · have p1 : (p != 0) = false := bne_eq_false_iff_eq.mpr hp
    have HP := Aside0.mk hp
    clear hp
    go_enter Try.func109, Try.ntmps109
    go_wp2_with (first
      | (go_at_call 29; (with_reducible refine (ey _ hN).mono ?_); rintro e w2 ⟨rfl, hN2⟩)
      | (go_at_call 29; (with_reducible refine (ex _ hS0).mono ?_); rintro e w1 ⟨rfl, hN⟩; obtain ⟨x0, x1, x2, x3, x4, x5, x6, y0, y1, y2, y3, y4, y5, y6, hb⟩ := id hN))
    go_ret
    exact ⟨by rw [HE.out, if_pos HP.out]; rfl, hN2.below⟩
  · have p1 : (p != 0) = true := bne_iff_ne.mpr hp
    have HP := Aside0.mk hp
    clear hp
    go_enter Try.func109, Try.ntmps109
    go_wp2_with (go_at_call 29; (with_reducible refine (ex _ hS0).mono ?_); rintro e w1 ⟨rfl, hN⟩)
    go_ret
    exact ⟨by rw [HE.out, if_neg HP.out]; rfl, hN.below⟩
/-- whole: a copy of one's own. -/
def WholePost (w : World) (t : S27) (e : Ending) (w' : World) : Prop := ∃ r, e = .returned (.tuple #[r, .int .i64 (chkM t)]) ∧ OwM w' (fun k => w.heap.size ≤ k) r (okM t).1 ∧ Below w.heap.size w w'
theorem OwM.zero (w : World) (ok : Nat → Prop) : OwM w ok (.agg #[.int .u8 0, .string ⟨#[]⟩, .bool false, .string ⟨#[]⟩, .slice none 0 0, .int .i64 0, .slice none 0 0]) zM := ⟨_, _, rfl, .nil _ _, .nil _ _⟩
set_option maxHeartbeats 2000000 in
set_option maxRecDepth 100000 in
theorem whole_calls (t : S27) (hf : fitM t) (A : Option Addr) (c : Nat) (B : Option Addr) (d : Nat) (w : World) (hX : RdM w t A c B d) : Calls Try.prog 110 #[.agg #[.int .u8 t.f0, .string t.f1, .bool t.f2.f0, .string t.f2.f1, .slice A t.f2.f2.length c, .int .i64 t.f3, .slice B t.f4.length d]] w (WholePost w t) := by
  have hb0 := (two_new w (.cells #[.int .u8 t.f0, .string t.f1, .bool t.f2.f0, .string t.f2.f1, .slice A t.f2.f2.length c, .int .i64 t.f3, .slice B t.f4.length d] 27) (.cells #[.int .u8 0, .string ⟨#[]⟩, .bool false, .string ⟨#[]⟩, .slice none 0 0, .int .i64 0, .slice none 0 0] 27)).1
  have BX := (two_new w (.cells #[.int .u8 t.f0, .string t.f1, .bool t.f2.f0, .string t.f2.f1, .slice A t.f2.f2.length c, .int .i64 t.f3, .slice B t.f4.length d] 27) (.cells #[.int .u8 0, .string ⟨#[]⟩, .bool false, .string ⟨#[]⟩, .slice none 0 0, .int .i64 0, .slice none 0 0] 27)).2.1
  have BR := (two_new w (.cells #[.int .u8 t.f0, .string t.f1, .bool t.f2.f0, .string t.f2.f1, .slice A t.f2.f2.length c, .int .i64 t.f3, .slice B t.f4.length d] 27) (.cells #[.int .u8 0, .string ⟨#[]⟩, .bool false, .string ⟨#[]⟩, .slice none 0 0, .int .i64 0, .slice none 0 0] 27)).2.2
  obtain ⟨x0, x1, x2, x3, x4, x5, x6⟩ := box7 BX
  have ec := fun W (hw : Below w.heap.size w W) => chkM_calls t hf A c B d W (hX.later hw)
  have et := fun W (hw : Below w.heap.size w W) => twinM_calls _ t A c B d W (Nat.le_refl _) hf (hX.later hw)
  have hO : okM t = if chkM t = 0 then (t, 0) else (zM, chkM t) := rfl
  clear hX
  unfold WholePost
  generalize chkM t = p at *
  have HO := Aside0.mk hO
  clear hO
  by_cases hp : p = 0
  · have p1 : (p != 0) = false := bne_eq_false_iff_eq.mpr hp
    have HP := Aside0.mk hp
    clear hp
    go_enter Try.func110, Try.ntmps110
    go_wp2_with (first
      | (go_at_call 28; (with_reducible refine (et _ hb1').mono ?_); rintro e w2 ⟨r, rfl, hOw, hb2⟩; obtain ⟨vt, vs, hr, hT, hM⟩ := hOw; subst hr; obtain ⟨A4, c4, hv4, _⟩ := hT.reads; subst hv4; obtain ⟨A5, c5, hv5, _⟩ := hM.reads; subst hv5; have BR2 := blk_below BR1 hb2; obtain ⟨e0, e1, e2, e3, e4, e5, e6⟩ := box7 BR2; have g0 := blk_frozen BR2 0; have g1 := blk_frozen BR2 1; have g2 := blk_frozen BR2 2; have g3 := blk_frozen BR2 3; have g4 := blk_frozen BR2 4; have g5 := blk_frozen BR2 5; have g6 := blk_frozen BR2 6)
      | (go_at_call 29; (with_reducible refine (ec _ hb0).mono ?_); rintro e w1 ⟨rfl, hb1⟩; have hb1' := below_step hb0 hb1; have BX1 := blk_below BX hb1; have BR1 := blk_below BR hb1; obtain ⟨x0, x1, x2, x3, x4, x5, x6⟩ := box7 BX1))
    have hlt := blk_lt BR1
    have hbw := below_step hb1' hb2
    have hkf : ∀ k, k ≠ w.heap.size + 1 → ((((((((w2).setCell ⟨w.heap.size + 1, 0, none⟩ (.int .u8 t.f0)).setCell ⟨w.heap.size + 1, 1, none⟩ (.string t.f1)).setCell ⟨w.heap.size + 1, 2, none⟩ (.bool t.f2.f0)).setCell ⟨w.heap.size + 1, 3, none⟩ (.string t.f2.f1)).setCell ⟨w.heap.size + 1, 4, none⟩ (.slice A4 t.f2.f2.length c4)).setCell ⟨w.heap.size + 1, 5, none⟩ (.int .i64 t.f3)).setCell ⟨w.heap.size + 1, 6, none⟩ (.slice A5 t.f4.length c5)).heap[k]? = w2.heap[k]? := fun k hk => by rw [Below.heap_setCell _ _ _ k hk, Below.heap_setCell _ _ _ k hk, Below.heap_setCell _ _ _ k hk, Below.heap_setCell _ _ _ k hk, Below.heap_setCell _ _ _ k hk, Below.heap_setCell _ _ _ k hk, Below.heap_setCell _ _ _ k hk]
    have hbf : Below w.heap.size w ((((((((w2).setCell ⟨w.heap.size + 1, 0, none⟩ (.int .u8 t.f0)).setCell ⟨w.heap.size + 1, 1, none⟩ (.string t.f1)).setCell ⟨w.heap.size + 1, 2, none⟩ (.bool t.f2.f0)).setCell ⟨w.heap.size + 1, 3, none⟩ (.string t.f2.f1)).setCell ⟨w.heap.size + 1, 4, none⟩ (.slice A4 t.f2.f2.length c4)).setCell ⟨w.heap.size + 1, 5, none⟩ (.int .i64 t.f3)).setCell ⟨w.heap.size + 1, 6, none⟩ (.slice A5 t.f4.length c5)) := (((((((hbw).setCell (by simp) _).setCell (by simp) _).setCell (by simp) _).setCell (by simp) _).setCell (by simp) _).setCell (by simp) _).setCell (by simp) _
    refine bodyPost_ret (results_ct rfl _ _ (w.heap.size + 1) 27 #[.int .u8 t.f0, .string t.f1, .bool t.f2.f0, .string t.f2.f1, .slice A4 t.f2.f2.length c4, .int .i64 t.f3, .slice A5 t.f4.length c5] (0, 0) _ rfl (set7l BR2) Try.underlying27 rfl (by kernel_rfl)) rfl ?_
    refine ⟨_, by rw [HP.out]; rfl, ?_, hbf⟩
    rw [HO.out, if_pos HP.out]
    exact ⟨_, _, rfl, (hT.step (fun k hk _ => hkf k (by omega))).mono (fun k hk => by omega), (hM.step (fun k hk _ => hkf k (by omega))).mono (fun k hk => by omega)⟩
  · have p1 : (p != 0) = true := bne_iff_ne.mpr hp
    have HP := Aside0.mk hp
    clear hp et
    go_enter Try.func110, Try.ntmps110
    go_wp2_with (go_at_call 29; (with_reducible refine (ec _ hb0).mono ?_); rintro e w1 ⟨rfl, hb1⟩; have hb1' := below_step hb0 hb1; have BR2 := blk_below BR hb1; obtain ⟨e0, e1, e2, e3, e4, e5, e6⟩ := box7 BR2; have g0 := blk_frozen BR2 0; have g1 := blk_frozen BR2 1; have g2 := blk_frozen BR2 2; have g3 := blk_frozen BR2 3; have g4 := blk_frozen BR2 4; have g5 := blk_frozen BR2 5; have g6 := blk_frozen BR2 6)
    refine bodyPost_ret (results_ct rfl _ _ (w.heap.size + 1) 27 #[.int .u8 0, .string ⟨#[]⟩, .bool false, .string ⟨#[]⟩, .slice none 0 0, .int .i64 0, .slice none 0 0] (0, 0) _ rfl (set7l BR2) Try.underlying27 rfl (by kernel_rfl)) rfl ?_
    refine ⟨_, rfl, ?_, (((((((hb1').setCell (by simp) _).setCell (by simp) _).setCell (by simp) _).setCell (by simp) _).setCell (by simp) _).setCell (by simp) _).setCell (by simp) _⟩
    rw [HO.out, if_neg HP.out]
    exact OwM.zero _ _
end Go.Proofs.Ytecplbgdalchdaa.Q
/- Proved here: the contract of terms.within over a function that is told what it answers. Conditions: those that each theorem names. -/
namespace Go.Proofs.Ytecplbgdalchdaa.Q
open Go.RowKit Go.Shelf Go.Proofs.YtecplbgdalchdaaW.PrintWords Go.Proofs.YtecplbgdalchdaaW.PrintMore
set_option linter.unusedVariables false
set_option linter.unusedSimpArgs false
attribute [local go_sem] Oper.semAt_some

/-- A term that shares its types with elder ones. -/
def TrFM (w : World) (ok : Nat → Prop) (a : Value) (x : S27) : Prop := ∃ A c B d, a = .agg #[.int .u8 x.f0, .string x.f1, .bool x.f2.f0, .string x.f2.f1, .slice A x.f2.f2.length c, .int .i64 x.f3, .slice B x.f4.length d] ∧ RdF w ok x A c B d
theorem RdF.step {w w' : World} {ok : Nat → Prop} {x : S27} {A B : Option Addr} {c d : Nat} (h : RdF w ok x A c B d) (hm : ∀ k, ok k → k < w.heap.size → w'.heap[k]? = w.heap[k]?) : RdF w' ok x A c B d := ⟨⟨Kd.F_step h.1.1 hm, h.1.2⟩, Kd.F_step h.2.1 hm, h.2.2⟩
def PutPost (w : World) (ok : Nat → Prop) (x : S27) (e : Ending) (w' : World) : Prop := ∃ r, e = .returned r ∧ TrFM w' (fun k => ok k ∨ w.heap.size ≤ k) r x ∧ Below w.heap.size w w'
/-! ### A row under construction -/
def RowF (w : World) (base : Nat) (ok : Nat → Prop) (v : Value) (ys : List S27) : Prop :=
  ∃ inner : List Value, w.ownsRow base 27 7 v ys.length inner ∧ Reps (Kd.FK k27 w (fun k => (ok k ∨ base ≤ k) ∧ some k ≠ v.ownBlock)) 7 ys inner
theorem RowF.nil (w : World) (base : Nat) (ok : Nat → Prop) : RowF w base ok (.slice none 0 0) [] := ⟨[], World.ownsRow_nil _ _ _ _, Reps.none _ _⟩
theorem RowF.step {w w1 : World} {base : Nat} {ok : Nat → Prop} {v : Value} {ys : List S27} (h : RowF w base ok v ys) (hm : ∀ k, (ok k ∨ base ≤ k) → k < w.heap.size → w1.heap[k]? = w.heap[k]?) : RowF w1 base ok v ys := by
  obtain ⟨inner, hrow, hel⟩ := h
  exact ⟨inner, own_move hrow (fun k hk => hm k (.inr (own_base hrow k hk)) (own_lt hrow k hk)), Reps.imp_ hel (fun p cs hp => Kd.FK_step hp (fun k hk hlt => hm k hk.1 hlt))⟩
theorem RowF.next {w w3 : World} {base g cap : Nat} {v : Value} {ys : List S27} {x : S27} {inner : List Value} {ok : Nat → Prop} {A B : Option Addr} {c d : Nat}
    (hel : Reps (Kd.FK k27 w (fun k => (ok k ∨ base ≤ k) ∧ some k ≠ v.ownBlock)) 7 ys inner) (hx : RdF w (fun k => (ok k ∨ base ≤ k) ∧ some k ≠ v.ownBlock) x A c B d)
    (hown : w3.ownsRow base 27 7 (.slice (some ⟨g, 0, none⟩) (ys.length + 1) cap) (ys.length + 1) (inner ++ [.int .u8 x.f0, .string x.f1, .bool x.f2.f0, .string x.f2.f1, .slice A x.f2.f2.length c, .int .i64 x.f3, .slice B x.f4.length d]))
    (hgr : w.grownBy w3 v.ownBlock) (hat : v.ownBlock = some g ∨ g = w.heap.size) : RowF w3 base ok (.slice (some ⟨g, 0, none⟩) (ys.length + 1) cap) (ys ++ [x]) := by
  refine ⟨_, by simpa using hown, Reps.imp_ (Reps.snoc hel (k27_mkF w _ x hx.1.2 hx.1.1 hx.2.2 hx.2.1) rfl) (fun p cs hp W' hW' => hp W' (fun k hk hlt => (hW' k ⟨hk.1, fun he => ?_⟩ (Nat.lt_of_lt_of_le hlt hgr.size)).trans (hgr.block k hlt hk.2)))⟩
  have hkg : k = g := by simpa [Value.ownBlock] using he
  subst hkg
  rcases hat with hat | hat
  · exact hk.2 hat.symm
  · omega
theorem RowF.reads {w : World} {base : Nat} {ok : Nat → Prop} {v : Value} {ys : List S27} (h : RowF w base ok v ys) : ∃ A c, v = .slice A ys.length c ∧ ys.length ≤ c ∧ Kd.F k27 w (fun k => ok k ∨ base ≤ k) A ys.length ys := by
  obtain ⟨inner, hrow, hel⟩ := h
  obtain ⟨A, c, rfl⟩ := own_slice hrow
  have hc : ys.length ≤ c := by
    rcases hrow.2 with ⟨h1, h2⟩ | ⟨g, cap, cur, h1, _, _, h2, _⟩
    · omega
    · injection h1 with _ _ h3; omega
  refine ⟨A, c, rfl, hc, fun W' hW' => ?_⟩
  have hrow' := own_move (w1 := W') hrow (fun k hk => hW' k (.inr (own_base hrow k hk)) (own_lt hrow k hk))
  have hel' : Reps (fun (x : S27) cs => k27.K W' x cs) 7 ys inner := Reps.imp_ hel (fun p cs hp => hp W' (fun k hk hlt => hW' k hk.1 hlt))
  obtain ⟨A', c', he, hC⟩ := own_reads_row hrow' hel' rfl
  injection he with e1 e2 e3
  rw [e1]
  exact hC
/-! ### within -/
structure WiAt (w : World) (t : S27) (ok : Nat → Prop) (A : Option Addr) (c : Nat) (F : S27 → S27) (kk : Nat) (W : World) : Prop where
  b1 : ∃ v, W.heap[w.heap.size]? = some (.cells #[.int .u8 t.f0, .string t.f1, .bool t.f2.f0, .string t.f2.f1, .slice A t.f2.f2.length c, .int .i64 t.f3, v] 27 (0, 0)) ∧ RowF W (w.heap.size + 2) ok v ((t.f4.take kk).map F)
  b2 : W.heap[w.heap.size + 1]? = some (.cells #[.int .u8 0, .string ⟨#[]⟩, .bool false, .string ⟨#[]⟩, .slice none 0 0, .int .i64 0, .slice none 0 0] 27 (0, 0))
  hb : Below w.heap.size w W
theorem WiAt.next {w wr w1 w3 : World} {t y : S27} {ok : Nat → Prop} {A : Option Addr} {c : Nat} {F : S27 → S27} {kk : Nat} {ys : List S27} {RA A4 B4 : Option Addr} {rc c4 d4 g cap : Nat} {inner : List Value} {o : Obj} (hok : ∀ k, ok k → k < w.heap.size)
    (htk : (t.f4.take (kk + 1)).map F = ys ++ [y]) (B2 : wr.heap[w.heap.size + 1]? = some (.cells #[.int .u8 0, .string ⟨#[]⟩, .bool false, .string ⟨#[]⟩, .slice none 0 0, .int .i64 0, .slice none 0 0] 27 (0, 0)))
    (hown : wr.ownsRow (w.heap.size + 2) 27 7 (.slice RA ys.length rc) ys.length inner)
    (hel : Reps (Kd.FK k27 wr (fun k => (ok k ∨ w.heap.size + 2 ≤ k) ∧ some k ≠ (Value.slice RA ys.length rc).ownBlock)) 7 ys inner)
    (hb : Below w.heap.size w wr) (hlt : w.heap.size + 1 < wr.heap.size) (hb3 : Below wr.heap.size wr w1) (hW : RdF w1 (fun k => ok k ∨ wr.heap.size ≤ k) y A4 c4 B4 d4)
    (B6 : w3.heap[w.heap.size]? = some (.cells #[.int .u8 t.f0, .string t.f1, .bool t.f2.f0, .string t.f2.f1, .slice A t.f2.f2.length c, .int .i64 t.f3, .slice RA ys.length rc] 27 (0, 0)))
    (hown3 : w3.ownsRow (w.heap.size + 2) 27 7 (.slice (some ⟨g, 0, none⟩) (ys.length + 1) cap) (ys.length + 1) (inner ++ [.int .u8 y.f0, .string y.f1, .bool y.f2.f0, .string y.f2.f1, .slice A4 y.f2.f2.length c4, .int .i64 y.f3, .slice B4 y.f4.length d4]))
    (hgr : (w1.alloc o).grownBy w3 (Value.slice RA ys.length rc).ownBlock) (hat : (Value.slice RA ys.length rc).ownBlock = some g ∨ g = (w1.alloc o).heap.size) :
    WiAt w t ok A c F (kk + 1) (w3.setCell ⟨w.heap.size, 6, none⟩ (.slice (some ⟨g, 0, none⟩) (ys.length + 1) cap)) := by
  have hbo : Below wr.heap.size wr (w1.alloc o) := hb3.alloc hb3.size _
  have hrb : ∀ k, (Value.slice RA ys.length rc).ownBlock = some k → w.heap.size + 2 ≤ k ∧ k < wr.heap.size := fun k hk => ⟨own_base hown k hk, own_lt hown k hk⟩
  have hR := RowF.next (x := y) (ok := ok) (base := w.heap.size + 2) (w := w1.alloc o) (Reps.imp_ hel (fun p cs hp => Kd.FK_step hp (fun k _ hlt2 => hbo.block k hlt2))) ((hW.later (below_one _)).mono (fun k hk => ⟨hk.imp id (fun h => by omega), fun e => by have := hrb k e.symm; rcases hk with hk | hk <;> (try have := hok k hk) <;> omega⟩)) hown3 hgr hat
  have hB2 : w3.heap[w.heap.size + 1]? = some (.cells #[.int .u8 0, .string ⟨#[]⟩, .bool false, .string ⟨#[]⟩, .slice none 0 0, .int .i64 0, .slice none 0 0] 27 (0, 0)) :=
    (hgr.block _ (by have := hbo.size; omega) (fun e => by have := hrb _ e.symm; omega)).trans ((hbo.block _ (by omega)).trans B2)
  refine ⟨⟨_, blk_put B6 6 _ rfl, ?_⟩, blk_far hB2 (by simp) _, ((below_step hb hbo).grown hgr (by have := hbo.size; have := hb.size; omega) (fun k hk => by have := hrb k hk; omega)).setCell (by simp) _⟩
  rw [htk]
  exact hR.step (fun k hk _ => Below.heap_setCell _ _ _ k (by rcases hk with hk | hk <;> (try have := hok k hk) <;> simp <;> omega))
set_option maxHeartbeats 4000000 in
set_option maxRecDepth 100000 in
theorem within_calls (g0 : Nat) (lb : Array Value) (eg : ∀ args w, (callFunc g0 args).run Try.prog w = .ok (.enter g0 args) w) (F : S27 → S27) (t : S27) (dp : Int) (hdp : -1000000000 ≤ dp ∧ dp ≤ 1000000000) (hlen : t.f4.length ≤ 1000000000) (A : Option Addr) (c : Nat) (B : Option Addr) (d : Nat) (w : World) (ok : Nat → Prop) (hok : ∀ k, ok k → k < w.heap.size) (hX : RdF w ok t A c B d)
    (hcall : ∀ kk : Nat, kk < t.f4.length → ∀ A2 c2 A3 c3 W, Below w.heap.size w W → RdF W ok (rd_T27 t.f4 (kk : Int)) A2 c2 A3 c3 → Calls Try.prog g0 (#[.agg #[.int .u8 (rd_T27 t.f4 (kk : Int)).f0, .string (rd_T27 t.f4 (kk : Int)).f1, .bool (rd_T27 t.f4 (kk : Int)).f2.f0, .string (rd_T27 t.f4 (kk : Int)).f2.f1, .slice A2 (rd_T27 t.f4 (kk : Int)).f2.f2.length c2, .int .i64 (rd_T27 t.f4 (kk : Int)).f3, .slice A3 (rd_T27 t.f4 (kk : Int)).f4.length c3], .int .i64 (deeper t.f0 dp)] ++ lb) W (PutPost W ok (F (rd_T27 t.f4 (kk : Int))))) :
    Calls Try.prog 174 #[.agg #[.int .u8 t.f0, .string t.f1, .bool t.f2.f0, .string t.f2.f1, .slice A t.f2.f2.length c, .int .i64 t.f3, .slice B t.f4.length d], .int .i64 dp, .func (.func g0) #[] lb] w (PutPost w ok ⟨t.f0, t.f1, t.f2, t.f3, t.f4.map F⟩) := by
  have hb0 := (two_new w (.cells #[.int .u8 t.f0, .string t.f1, .bool t.f2.f0, .string t.f2.f1, .slice A t.f2.f2.length c, .int .i64 t.f3, .slice B t.f4.length d] 27) (.cells #[.int .u8 0, .string ⟨#[]⟩, .bool false, .string ⟨#[]⟩, .slice none 0 0, .int .i64 0, .slice none 0 0] 27)).1
  have BX := (two_new w (.cells #[.int .u8 t.f0, .string t.f1, .bool t.f2.f0, .string t.f2.f1, .slice A t.f2.f2.length c, .int .i64 t.f3, .slice B t.f4.length d] 27) (.cells #[.int .u8 0, .string ⟨#[]⟩, .bool false, .string ⟨#[]⟩, .slice none 0 0, .int .i64 0, .slice none 0 0] 27)).2.1
  have BR := (two_new w (.cells #[.int .u8 t.f0, .string t.f1, .bool t.f2.f0, .string t.f2.f1, .slice A t.f2.f2.length c, .int .i64 t.f3, .slice B t.f4.length d] 27) (.cells #[.int .u8 0, .string ⟨#[]⟩, .bool false, .string ⟨#[]⟩, .slice none 0 0, .int .i64 0, .slice none 0 0] 27)).2.2
  obtain ⟨x0, x1, x2, x3, x4, x5, x6⟩ := box7 BX
  have f6 := blk_frozen BX 6
  have HX := Aside0.mk hX
  have HOK := Aside0.mk hok
  have HV := Aside0.mk (Kd.V_mk (e := 27) (base := 0) hX.2.2 hX.2.1)
  have HCALL := Aside0.mk hcall
  have hdpw : IntKind.i64.wrap (dp + 1) = dp + 1 := by rw [IntKind.wrap_i64]; omega
  have hdpw2 : wrap64 (dp + 1) = dp + 1 := w64 (by omega) (by omega)
  have HLN := Aside0.mk hlen
  clear hX hcall hok hdp hlen
  have hde : deeper t.f0 dp = if t.f0 = 5 then dp + 1 else dp := rfl
  have hk5 : ((t.f0 == 5) = true ∧ deeper t.f0 dp = dp + 1) ∨ ((t.f0 == 5) = false ∧ deeper t.f0 dp = dp) := by
    by_cases h : t.f0 = 5
    · exact .inl ⟨by rw [h]; rfl, by rw [hde, if_pos h]⟩
    · exact .inr ⟨beq_eq_false_iff_ne.mpr h, by rw [hde, if_neg h]⟩
  clear hde
  rcases hk5 with ⟨k5, hdp⟩ | ⟨k5, hdp⟩
  all_goals
    generalize deeper t.f0 dp = dq at *
    first | (subst hdp) | (cases hdp)
    go_enter Try.func174, Try.ntmps174
    go_wp2_with fail
    obtain ⟨W0, hW0⟩ : ∃ W0, (w.alloc (.cells #[.int .u8 t.f0, .string t.f1, .bool t.f2.f0, .string t.f2.f1, .slice A t.f2.f2.length c, .int .i64 t.f3, .slice none 0 0] 27)).alloc (.cells #[.int .u8 0, .string ⟨#[]⟩, .bool false, .string ⟨#[]⟩, .slice none 0 0, .int .i64 0, .slice none 0 0] 27) = W0 := ⟨_, rfl⟩
    have hS0 : WiAt w t ok A c F 0 W0 := by
      rw [← hW0]
      have hn := two_new w (.cells #[.int .u8 t.f0, .string t.f1, .bool t.f2.f0, .string t.f2.f1, .slice A t.f2.f2.length c, .int .i64 t.f3, .slice none 0 0] 27) (.cells #[.int .u8 0, .string ⟨#[]⟩, .bool false, .string ⟨#[]⟩, .slice none 0 0, .int .i64 0, .slice none 0 0] 27)
      exact ⟨⟨_, hn.2.1, by rw [List.take_zero]; exact RowF.nil _ _ _⟩, hn.2.2, hn.1⟩
    rw [hW0]
    clear hW0 hb0 BX BR x0 x1 x2 x3 x4 x5 x6 f6
    go_loopg [20] t.f4.length (fun gg v20 wr => ∃ kk : Nat, kk ≤ t.f4.length ∧ gg + kk = t.f4.length ∧ v20 = .int .i64 (kk : Int) ∧ Aside0 (WiAt w t ok A c F kk wr))
    case atStart => exact ⟨0, by omega, by omega, rfl, ⟨hS0⟩⟩
    case round =>
      obtain ⟨kk, hk1, hk2, rfl, hT⟩ := hrel
      clear hS0
      obtain ⟨⟨v, B1, hrow⟩, B2, hb⟩ := hT.out
      clear hT
      by_cases hkk : kk < t.f4.length
      · have q0 : decide (kk < t.f4.length) = true := decide_eq_true hkk
        obtain ⟨ad, A2, c2, A3, c3, e1, ⟨hx0, hx1, hx2, hx3, hx4, hx5, hx6⟩, hE⟩ := tm_elem HV.out kk hkk
        cases e1
        replace hx0 := pw_cell_below hb hx0
        replace hx1 := pw_cell_below hb hx1
        replace hx2 := pw_cell_below hb hx2
        replace hx3 := pw_cell_below hb hx3
        replace hx4 := pw_cell_below hb hx4
        replace hx5 := pw_cell_below hb hx5
        replace hx6 := pw_cell_below hb hx6
        have hcall := fun W (hw : Below w.heap.size w W) => HCALL.out kk hkk A2 c2 A3 c3 W hw (hE.later hw)
        have htk : (t.f4.take (kk + 1)).map F = (t.f4.take kk).map F ++ [F (rd_T27 t.f4 (kk : Int))] := by
          rw [List.take_add_one, List.map_append, List.getElem?_eq_getElem hkk, rdM t.f4 kk hkk]
          rfl
        have hyl : ((t.f4.take kk).map F).length = kk := by rw [List.length_map, List.length_take]; omega
        generalize (t.f4.take kk).map F = ys at *
        generalize rd_T27 t.f4 (kk : Int) = x at *
        generalize hY : F x = y at *
        clear hY
        obtain ⟨inner, hown, hel⟩ := hrow
        obtain ⟨RA, rc, rfl⟩ := own_slice hown
        have HTK := Lib.hid htk
        have HYL := Lib.hid hyl
        have HEL := Aside0.mk hel
        have HOWN := Aside0.mk hown
        have HB1 := Aside0.mk B1
        have HB2 := Aside0.mk B2
        have HB := Aside0.mk hb
        have hlt := blk_lt B2
        clear htk hyl hel hown B2 hb hE
        obtain ⟨y0, y1, y2, y3, y4, y5, y6⟩ := box7 B1
        have g6 := blk_frozen B1 6
        clear B1
        go_wp2_with fail
        obtain ⟨i0, hi0, hz0, hz1, hz2⟩ := info_parts info27
        obtain ⟨W1, hW1⟩ : ∃ W1, wr.alloc (.cells #[.int .u8 x.f0, .string x.f1, .bool x.f2.f0, .string x.f2.f1, .slice A2 x.f2.f2.length c2, .int .i64 x.f3, .slice A3 x.f4.length c3] 27) = W1 := ⟨_, rfl⟩
        have BN := blk_new wr (.cells #[.int .u8 x.f0, .string x.f1, .bool x.f2.f0, .string x.f2.f1, .slice A2 x.f2.f2.length c2, .int .i64 x.f3, .slice A3 x.f4.length c3] 27)
        have hsz1 : W1.heap.size = wr.heap.size + 1 := by rw [← hW1]; simp
        have hbw1 : Below wr.heap.size wr W1 := by rw [← hW1]; exact below_one _
        rw [hW1] at BN ⊢
        clear hW1
        obtain ⟨n0, n1, n2, n3, n4, n5, n6⟩ := box7 BN
        have HB1W := Aside0.mk (blk_below HB1.out hbw1)
        obtain ⟨m0, m1, m2, m3, m4, m5, m6⟩ := box7 HB1W.out
        have e6 := blk_frozen HB1W.out 6
        have hlt1 := Nat.lt_of_lt_of_le hlt hbw1.size
        clear BN y0 y1 y2 y3 y4 y5 y6 g6 hx0 hx1 hx2 hx3 hx4 hx5 hx6
        go_region_law (first
          | (refine step_append_lies _ rfl _ _ 25 rfl (w.heap.size + 2) 27 i0 _ 7 104 Try.underlying25 hi0 hz0 hz1 hz2 rfl (by decide) (.slice RA ys.length rc) ys.length inner rfl ((own_later HOWN.out hb3).alloc _) ⟨w1.heap.size, 0, none⟩ 1 1 [.int .u8 y.f0, .string y.f1, .bool y.f2.f0, .string y.f2.f1, .slice A4 y.f2.f2.length c4, .int .i64 y.f3, .slice B4 y.f4.length d4] rfl rfl (World.news_of_block (blk_new w1 _)) ?hone (by decide) ?h63 ?hby ?hbase _ rfl ?_; (case hone => simp [Value.oneCell']); (case h63 => have := HYL.out; have := HLN.out; unfold maxLen; omega); (case hby => have := HYL.out; have := HLN.out; omega); (case hbase => simp; omega); intro g cap w3 hown3 hgr hat hg3; have B6 := (hgr.block (w.heap.size) (by simp; omega) (fun e => by have := own_base HOWN.out _ e.symm; omega)).trans (blk_alloc B5 _); obtain ⟨k0, k1, k2, k3, k4, k5, k6⟩ := box7 B6; have j6 := blk_frozen B6 6)
          | (go_simp; go_at_fn g0; refine (hcall _ (below_drew1 (HB.out.trans (hbw1.mono HB.out.size)))).mono ?_; rintro e w1 ⟨r, rfl, hr, hb1⟩; obtain ⟨A4, c4, B4, d4, rfl, hW⟩ := hr; have hb2 := below_step (below_drew1 (Below.refl _ W1)) hb1; have hb3 := below_step hbw1 hb2; have B5 := blk_below HB1.out hb3; obtain ⟨z0, z1, z2, z3, z4, z5, z6⟩ := box7 B5; have l5 := blk_lt B5; have r6 := blk_frozen B5 6))
        all_goals (have HR := WiAt.next (F := F) (kk := kk) HOK.out HTK.out HB2.out HOWN.out HEL.out HB.out hlt (hb3 := hb3) (hW.mono (fun k hk => hk.imp id (fun h => by simp at h; omega))) B6 hown3 hgr hat)
        all_goals (clear hb1 hb2 hb3 B5 B6 z0 z1 z2 z3 z4 z5 z6 hown3 hgr hat hW k0 k1 k2 k3 k4 k6 hcall n0 n1 n2 n3 n4 n5 n6 m0 m1 m2 m3 m4 m5 m6)
        all_goals go_wp2
        all_goals (go_roundg (t.f4.length - kk - 1))
        all_goals first
          | (case measure => omega)
          | (case rel => exact ⟨kk + 1, by omega, by omega, by simp; exact w64s (by have := HLN.out; omega), ⟨HR⟩⟩)
      · have q0 : decide (kk < t.f4.length) = false := decide_eq_false hkk
        obtain rfl : kk = t.f4.length := by omega
        rw [List.take_length] at hrow
        have HROW := Aside0.mk hrow
        obtain ⟨RA, rc, rfl, hrl, _⟩ := hrow.reads
        clear hrow
        obtain ⟨y0, y1, y2, y3, y4, y5, y6⟩ := box7 B1
        obtain ⟨e0, e1, e2, e3, e4, e5, e6⟩ := box7 B2
        have g0 := blk_frozen B2 0
        have g1 := blk_frozen B2 1
        have g2 := blk_frozen B2 2
        have g3 := blk_frozen B2 3
        have g4 := blk_frozen B2 4
        have g5 := blk_frozen B2 5
        have g6 := blk_frozen B2 6
        clear hkk
        go_wp2_with fail
        have hkf : ∀ k, k ≠ w.heap.size + 1 → (((((((((wr).setCell ⟨w.heap.size + 1, 0, none⟩ (.int .u8 t.f0)).setCell ⟨w.heap.size + 1, 1, none⟩ (.string t.f1)).setCell ⟨w.heap.size + 1, 2, none⟩ (.bool t.f2.f0)).setCell ⟨w.heap.size + 1, 3, none⟩ (.string t.f2.f1)).setCell ⟨w.heap.size + 1, 4, none⟩ (.slice A t.f2.f2.length c)).setCell ⟨w.heap.size + 1, 5, none⟩ (.int .i64 t.f3)).setCell ⟨w.heap.size + 1, 6, none⟩ (.slice RA t.f4.length rc))).heap[k]? = wr.heap[k]? := fun k hk => by rw [Below.heap_setCell _ _ _ k hk, Below.heap_setCell _ _ _ k hk, Below.heap_setCell _ _ _ k hk, Below.heap_setCell _ _ _ k hk, Below.heap_setCell _ _ _ k hk, Below.heap_setCell _ _ _ k hk, Below.heap_setCell _ _ _ k hk]
        have hbf : Below w.heap.size w (((((((((wr).setCell ⟨w.heap.size + 1, 0, none⟩ (.int .u8 t.f0)).setCell ⟨w.heap.size + 1, 1, none⟩ (.string t.f1)).setCell ⟨w.heap.size + 1, 2, none⟩ (.bool t.f2.f0)).setCell ⟨w.heap.size + 1, 3, none⟩ (.string t.f2.f1)).setCell ⟨w.heap.size + 1, 4, none⟩ (.slice A t.f2.f2.length c)).setCell ⟨w.heap.size + 1, 5, none⟩ (.int .i64 t.f3)).setCell ⟨w.heap.size + 1, 6, none⟩ (.slice RA t.f4.length rc))) := (((((((hb).setCell (by simp) _).setCell (by simp) _).setCell (by simp) _).setCell (by simp) _).setCell (by simp) _).setCell (by simp) _).setCell (by simp) _
        refine bodyPost_ret (results_cell_row rfl _ _ (w.heap.size + 1) 27 #[.int .u8 t.f0, .string t.f1, .bool t.f2.f0, .string t.f2.f1, .slice A t.f2.f2.length c, .int .i64 t.f3, .slice RA t.f4.length rc] (0, 0) _ rfl (set7l B2) Try.underlying27 rfl (by kernel_rfl)) rfl ?_
        obtain ⟨RA', rc', he, hrl', hF⟩ := (HROW.out.step (fun k hk _ => hkf k (by rcases hk with hk | hk <;> (try have := HOK.out k hk) <;> omega))).reads
        injection he with he1 he2 he3
        subst he1 he3
        exact ⟨_, rfl, ⟨A, c, RA, rc, by simp, ⟨Kd.F_mono (Kd.F_below HX.out.1.1 hbf) (fun k hk => .inl hk), HX.out.1.2⟩, Kd.F_mono hF (fun k hk => hk.imp id (fun h => by omega)), hrl⟩, hbf⟩
end Go.Proofs.Ytecplbgdalchdaa.Q
/- Proved here: the contracts of terms.bind and free. Conditions: those that each theorem names. -/
namespace Go.Proofs.Ytecplbgdalchdaa.Q
open Go.RowKit Go.Shelf Go.Proofs.YtecplbgdalchdaaW.PrintWords Go.Proofs.YtecplbgdalchdaaW.PrintMore
set_option linter.unusedVariables false
set_option linter.unusedSimpArgs false
attribute [local go_sem] Oper.semAt_some


theorem nilFM (A : Option Addr) (w : World) (ok : Nat → Prop) : Kd.F k27 w ok A ([] : List S27).length [] := fun W' _ => ⟨rfl, by simp, fun h => absurd h (by simp)⟩
theorem TrFM.zero (w : World) (ok : Nat → Prop) (k i : Int) : TrFM w ok (.agg #[.int .u8 k, .string ⟨#[]⟩, .bool false, .string ⟨#[]⟩, .slice none 0 0, .int .i64 i, .slice none 0 0]) ⟨k, noN, zT, i, []⟩ := ⟨none, 0, none, 0, rfl, ⟨nilF _ _ _, Nat.le_refl _⟩, nilFM _ _ _, Nat.le_refl _⟩
/-- A result, stored into one's own box, read. -/
theorem PutPost.store {w W2 w2 : World} {ok : Nat → Prop} {g : Nat} {y : S27} {A4 B4 : Option Addr} {c4 d4 : Nat} (hok : ∀ k, ok k → k < w.heap.size) (hg : w.heap.size ≤ g) (hg2 : g < W2.heap.size) (hb : Below w.heap.size w W2) (hb2 : Below W2.heap.size W2 w2) (hy : RdF w2 (fun k => ok k ∨ W2.heap.size ≤ k) y A4 c4 B4 d4) :
    PutPost w ok y (.returned (.agg #[.int .u8 y.f0, .string y.f1, .bool y.f2.f0, .string y.f2.f1, .slice A4 y.f2.f2.length c4, .int .i64 y.f3, .slice B4 y.f4.length d4])) ((((((((w2).setCell ⟨g, 0, none⟩ (.int .u8 y.f0)).setCell ⟨g, 1, none⟩ (.string y.f1)).setCell ⟨g, 2, none⟩ (.bool y.f2.f0)).setCell ⟨g, 3, none⟩ (.string y.f2.f1)).setCell ⟨g, 4, none⟩ (.slice A4 y.f2.f2.length c4)).setCell ⟨g, 5, none⟩ (.int .i64 y.f3)).setCell ⟨g, 6, none⟩ (.slice B4 y.f4.length d4)) := by
  have hkf : ∀ k, k ≠ g → ((((((((w2).setCell ⟨g, 0, none⟩ (.int .u8 y.f0)).setCell ⟨g, 1, none⟩ (.string y.f1)).setCell ⟨g, 2, none⟩ (.bool y.f2.f0)).setCell ⟨g, 3, none⟩ (.string y.f2.f1)).setCell ⟨g, 4, none⟩ (.slice A4 y.f2.f2.length c4)).setCell ⟨g, 5, none⟩ (.int .i64 y.f3)).setCell ⟨g, 6, none⟩ (.slice B4 y.f4.length d4)).heap[k]? = w2.heap[k]? := fun k hk => by rw [Below.heap_setCell _ _ _ k hk, Below.heap_setCell _ _ _ k hk, Below.heap_setCell _ _ _ k hk, Below.heap_setCell _ _ _ k hk, Below.heap_setCell _ _ _ k hk, Below.heap_setCell _ _ _ k hk, Below.heap_setCell _ _ _ k hk]
  exact ⟨_, rfl, ⟨A4, c4, B4, d4, rfl, (hy.step (fun k hk _ => hkf k (by rcases hk with hk | hk <;> (try have := hok k hk) <;> omega))).mono (fun k hk => hk.imp id (fun h => by omega))⟩, (((((((below_step hb hb2).setCell (by simp; omega) _).setCell (by simp; omega) _).setCell (by simp; omega) _).setCell (by simp; omega) _).setCell (by simp; omega) _).setCell (by simp; omega) _).setCell (by simp; omega) _⟩
set_option maxHeartbeats 2000000 in
set_option maxRecDepth 100000 in
theorem bind1_calls (x v y : S27) (dq : Int) (A : Option Addr) (c : Nat) (B : Option Addr) (d : Nat) (A' : Option Addr) (c' : Nat) (B' : Option Addr) (d' : Nat) (gv : Nat) (w : World) (ok : Nat → Prop) (hok : ∀ k, ok k → k < w.heap.size)
    (hbox : w.heap[gv]? = some (.cells #[.int .u8 v.f0, .string v.f1, .bool v.f2.f0, .string v.f2.f1, .slice A' v.f2.f2.length c', .int .i64 v.f3, .slice B' v.f4.length d'] 27 (0, 0))) (hc : ∀ W, Below w.heap.size w W → Calls Try.prog 111 #[.agg #[.int .u8 x.f0, .string x.f1, .bool x.f2.f0, .string x.f2.f1, .slice A x.f2.f2.length c, .int .i64 x.f3, .slice B x.f4.length d], .agg #[.int .u8 v.f0, .string v.f1, .bool v.f2.f0, .string v.f2.f1, .slice A' v.f2.f2.length c', .int .i64 v.f3, .slice B' v.f4.length d'], .int .i64 dq] W (PutPost W ok y)) :
    Calls Try.prog 175 #[.agg #[.int .u8 x.f0, .string x.f1, .bool x.f2.f0, .string x.f2.f1, .slice A x.f2.f2.length c, .int .i64 x.f3, .slice B x.f4.length d], .int .i64 dq, .pointer (some ⟨gv, 0, none⟩)] w (PutPost w ok y) := by
  have hb0 := (two_new w (.cells #[.int .u8 x.f0, .string x.f1, .bool x.f2.f0, .string x.f2.f1, .slice A x.f2.f2.length c, .int .i64 x.f3, .slice B x.f4.length d] 27) (.cells #[.int .u8 0, .string ⟨#[]⟩, .bool false, .string ⟨#[]⟩, .slice none 0 0, .int .i64 0, .slice none 0 0] 27)).1
  have BX := (two_new w (.cells #[.int .u8 x.f0, .string x.f1, .bool x.f2.f0, .string x.f2.f1, .slice A x.f2.f2.length c, .int .i64 x.f3, .slice B x.f4.length d] 27) (.cells #[.int .u8 0, .string ⟨#[]⟩, .bool false, .string ⟨#[]⟩, .slice none 0 0, .int .i64 0, .slice none 0 0] 27)).2.1
  have BR := (two_new w (.cells #[.int .u8 x.f0, .string x.f1, .bool x.f2.f0, .string x.f2.f1, .slice A x.f2.f2.length c, .int .i64 x.f3, .slice B x.f4.length d] 27) (.cells #[.int .u8 0, .string ⟨#[]⟩, .bool false, .string ⟨#[]⟩, .slice none 0 0, .int .i64 0, .slice none 0 0] 27)).2.2
  have BV := blk_below hbox hb0
  obtain ⟨x0, x1, x2, x3, x4, x5, x6⟩ := box7 BX
  obtain ⟨v0, v1, v2, v3, v4, v5, v6⟩ := box7 BV
  have hlt := blk_lt BR
  clear hbox
  have HOK := Aside0.mk hok
  clear hok
  go_enter Try.func175, Try.ntmps175
  go_wp2_with (go_at_call 111; (with_reducible refine (hc _ hb0).mono ?_); rintro e w2 ⟨r, rfl, hr, hb2⟩; obtain ⟨A4, c4, B4, d4, rfl, hW⟩ := hr; have BR2 := blk_below BR hb2; obtain ⟨e0, e1, e2, e3, e4, e5, e6⟩ := box7 BR2; have g0 := blk_frozen BR2 0; have g1 := blk_frozen BR2 1; have g2 := blk_frozen BR2 2; have g3 := blk_frozen BR2 3; have g4 := blk_frozen BR2 4; have g5 := blk_frozen BR2 5; have g6 := blk_frozen BR2 6)
  refine bodyPost_ret (results_cell_row rfl _ _ (w.heap.size + 1) 27 #[.int .u8 y.f0, .string y.f1, .bool y.f2.f0, .string y.f2.f1, .slice A4 y.f2.f2.length c4, .int .i64 y.f3, .slice B4 y.f4.length d4] (0, 0) _ rfl (set7l BR2) Try.underlying27 rfl (by kernel_rfl)) rfl ?_
  exact PutPost.store HOK.out (by omega) hlt hb0 hb2 hW
set_option maxHeartbeats 2000000 in
set_option maxRecDepth 100000 in
theorem free1_calls (x v y : S27) (dq : Int) (A : Option Addr) (c : Nat) (B : Option Addr) (d : Nat) (A' : Option Addr) (c' : Nat) (B' : Option Addr) (d' : Nat) (gv : Nat) (w : World) (ok : Nat → Prop) (hok : ∀ k, ok k → k < w.heap.size)
    (hbox : w.heap[gv]? = some (.cells #[.int .u8 v.f0, .string v.f1, .bool v.f2.f0, .string v.f2.f1, .slice A' v.f2.f2.length c', .int .i64 v.f3, .slice B' v.f4.length d'] 27 (0, 0))) (hc : ∀ W, Below w.heap.size w W → Calls Try.prog 112 #[.agg #[.int .u8 x.f0, .string x.f1, .bool x.f2.f0, .string x.f2.f1, .slice A x.f2.f2.length c, .int .i64 x.f3, .slice B x.f4.length d], .agg #[.int .u8 v.f0, .string v.f1, .bool v.f2.f0, .string v.f2.f1, .slice A' v.f2.f2.length c', .int .i64 v.f3, .slice B' v.f4.length d'], .int .i64 dq] W (PutPost W ok y)) :
    Calls Try.prog 176 #[.agg #[.int .u8 x.f0, .string x.f1, .bool x.f2.f0, .string x.f2.f1, .slice A x.f2.f2.length c, .int .i64 x.f3, .slice B x.f4.length d], .int .i64 dq, .pointer (some ⟨gv, 0, none⟩)] w (PutPost w ok y) := by
  have hb0 := (two_new w (.cells #[.int .u8 x.f0, .string x.f1, .bool x.f2.f0, .string x.f2.f1, .slice A x.f2.f2.length c, .int .i64 x.f3, .slice B x.f4.length d] 27) (.cells #[.int .u8 0, .string ⟨#[]⟩, .bool false, .string ⟨#[]⟩, .slice none 0 0, .int .i64 0, .slice none 0 0] 27)).1
  have BX := (two_new w (.cells #[.int .u8 x.f0, .string x.f1, .bool x.f2.f0, .string x.f2.f1, .slice A x.f2.f2.length c, .int .i64 x.f3, .slice B x.f4.length d] 27) (.cells #[.int .u8 0, .string ⟨#[]⟩, .bool false, .string ⟨#[]⟩, .slice none 0 0, .int .i64 0, .slice none 0 0] 27)).2.1
  have BR := (two_new w (.cells #[.int .u8 x.f0, .string x.f1, .bool x.f2.f0, .string x.f2.f1, .slice A x.f2.f2.length c, .int .i64 x.f3, .slice B x.f4.length d] 27) (.cells #[.int .u8 0, .string ⟨#[]⟩, .bool false, .string ⟨#[]⟩, .slice none 0 0, .int .i64 0, .slice none 0 0] 27)).2.2
  have BV := blk_below hbox hb0
  obtain ⟨x0, x1, x2, x3, x4, x5, x6⟩ := box7 BX
  obtain ⟨v0, v1, v2, v3, v4, v5, v6⟩ := box7 BV
  have hlt := blk_lt BR
  clear hbox
  have HOK := Aside0.mk hok
  clear hok
  go_enter Try.func176, Try.ntmps176
  go_wp2_with (go_at_call 112; (with_reducible refine (hc _ hb0).mono ?_); rintro e w2 ⟨r, rfl, hr, hb2⟩; obtain ⟨A4, c4, B4, d4, rfl, hW⟩ := hr; have BR2 := blk_below BR hb2; obtain ⟨e0, e1, e2, e3, e4, e5, e6⟩ := box7 BR2; have g0 := blk_frozen BR2 0; have g1 := blk_frozen BR2 1; have g2 := blk_frozen BR2 2; have g3 := blk_frozen BR2 3; have g4 := blk_frozen BR2 4; have g5 := blk_frozen BR2 5; have g6 := blk_frozen BR2 6)
  refine bodyPost_ret (results_cell_row rfl _ _ (w.heap.size + 1) 27 #[.int .u8 y.f0, .string y.f1, .bool y.f2.f0, .string y.f2.f1, .slice A4 y.f2.f2.length c4, .int .i64 y.f3, .slice B4 y.f4.length d4] (0, 0) _ rfl (set7l BR2) Try.underlying27 rfl (by kernel_rfl)) rfl ?_
  exact PutPost.store HOK.out (by omega) hlt hb0 hb2 hW
set_option maxHeartbeats 4000000 in
set_option maxRecDepth 100000 in
theorem bind_calls (n : Nat) : ∀ (t : S27), szM t ≤ n → ∀ (v : S27) (dp : Int), 0 ≤ dp → dp + szM t ≤ 1000000000 → ∀ (A : Option Addr) (c : Nat) (B : Option Addr) (d : Nat) (A' : Option Addr) (c' : Nat) (B' : Option Addr) (d' : Nat) (w : World) (ok : Nat → Prop), (∀ k, ok k → k < w.heap.size) → RdF w ok t A c B d → RdM w v A' c' B' d' →
    Calls Try.prog 111 #[.agg #[.int .u8 t.f0, .string t.f1, .bool t.f2.f0, .string t.f2.f1, .slice A t.f2.f2.length c, .int .i64 t.f3, .slice B t.f4.length d], .agg #[.int .u8 v.f0, .string v.f1, .bool v.f2.f0, .string v.f2.f1, .slice A' v.f2.f2.length c', .int .i64 v.f3, .slice B' v.f4.length d'], .int .i64 dp] w (PutPost w ok (bindM v dp t)) := by
  induction n with
  | zero => intro t hn; have := szM_pos t; omega
  | succ n ih =>
  intro t hn v dp h0 h1 A c B d A' c' B' d' w ok hok hX hV
  have hb0 := below_three (w := w) (.cells #[.int .u8 t.f0, .string t.f1, .bool t.f2.f0, .string t.f2.f1, .slice A t.f2.f2.length c, .int .i64 t.f3, .slice B t.f4.length d] 27) (.cells #[.int .u8 v.f0, .string v.f1, .bool v.f2.f0, .string v.f2.f1, .slice A' v.f2.f2.length c', .int .i64 v.f3, .slice B' v.f4.length d'] 27) (.cells #[.int .u8 0, .string ⟨#[]⟩, .bool false, .string ⟨#[]⟩, .slice none 0 0, .int .i64 0, .slice none 0 0] 27)
  have BT := blk_alloc (blk_mid (w := w) (.cells #[.int .u8 t.f0, .string t.f1, .bool t.f2.f0, .string t.f2.f1, .slice A t.f2.f2.length c, .int .i64 t.f3, .slice B t.f4.length d] 27) (.cells #[.int .u8 v.f0, .string v.f1, .bool v.f2.f0, .string v.f2.f1, .slice A' v.f2.f2.length c', .int .i64 v.f3, .slice B' v.f4.length d'] 27)) (.cells #[.int .u8 0, .string ⟨#[]⟩, .bool false, .string ⟨#[]⟩, .slice none 0 0, .int .i64 0, .slice none 0 0] 27)
  have BV := blk_alloc (blk_top (w := w) (.cells #[.int .u8 t.f0, .string t.f1, .bool t.f2.f0, .string t.f2.f1, .slice A t.f2.f2.length c, .int .i64 t.f3, .slice B t.f4.length d] 27) (.cells #[.int .u8 v.f0, .string v.f1, .bool v.f2.f0, .string v.f2.f1, .slice A' v.f2.f2.length c', .int .i64 v.f3, .slice B' v.f4.length d'] 27)) (.cells #[.int .u8 0, .string ⟨#[]⟩, .bool false, .string ⟨#[]⟩, .slice none 0 0, .int .i64 0, .slice none 0 0] 27)
  have BR : ((((w.alloc (.cells #[.int .u8 t.f0, .string t.f1, .bool t.f2.f0, .string t.f2.f1, .slice A t.f2.f2.length c, .int .i64 t.f3, .slice B t.f4.length d] 27)).alloc (.cells #[.int .u8 v.f0, .string v.f1, .bool v.f2.f0, .string v.f2.f1, .slice A' v.f2.f2.length c', .int .i64 v.f3, .slice B' v.f4.length d'] 27)).alloc (.cells #[.int .u8 0, .string ⟨#[]⟩, .bool false, .string ⟨#[]⟩, .slice none 0 0, .int .i64 0, .slice none 0 0] 27))).heap[w.heap.size + 1 + 1]? = some (.cells #[.int .u8 0, .string ⟨#[]⟩, .bool false, .string ⟨#[]⟩, .slice none 0 0, .int .i64 0, .slice none 0 0] 27 (0, 0)) := blk_third (w := w) (.cells #[.int .u8 t.f0, .string t.f1, .bool t.f2.f0, .string t.f2.f1, .slice A t.f2.f2.length c, .int .i64 t.f3, .slice B t.f4.length d] 27) (.cells #[.int .u8 v.f0, .string v.f1, .bool v.f2.f0, .string v.f2.f1, .slice A' v.f2.f2.length c', .int .i64 v.f3, .slice B' v.f4.length d'] 27) (.cells #[.int .u8 0, .string ⟨#[]⟩, .bool false, .string ⟨#[]⟩, .slice none 0 0, .int .i64 0, .slice none 0 0] 27)
  have hls := szML_len t.f4
  have hsz := szM_eq t
  have hwi : ¬ (t.f0 = 1 ∧ cmpM t v = 0) → ∀ W, Below w.heap.size w W → W.heap[w.heap.size + 1]? = some (.cells #[.int .u8 v.f0, .string v.f1, .bool v.f2.f0, .string v.f2.f1, .slice A' v.f2.f2.length c', .int .i64 v.f3, .slice B' v.f4.length d'] 27 (0, 0)) → Calls Try.prog 174 #[.agg #[.int .u8 t.f0, .string t.f1, .bool t.f2.f0, .string t.f2.f1, .slice A t.f2.f2.length c, .int .i64 t.f3, .slice B t.f4.length d], .int .i64 dp, .func (.func 175) #[] #[.pointer (some ⟨w.heap.size + 1, 0, none⟩)]] W (PutPost W ok (bindM v dp t)) := by
    intro hc W hw hbv
    rw [bindM_eq, if_neg hc]
    refine within_calls 175 #[.pointer (some ⟨w.heap.size + 1, 0, none⟩)] (enters_of Try.func175 (by kernel_rfl) rfl) (bindM v (deeper t.f0 dp)) t dp ⟨by omega, by omega⟩ (by omega) A c B d W ok (fun k hk => Nat.lt_of_lt_of_le (hok k hk) hw.size) (hX.later hw) ?_
    intro kk hkk A2 c2 A3 c3 W2 hw2 hx2
    have hm : rd_T27 t.f4 (kk : Int) ∈ t.f4 := by rw [rdM t.f4 kk hkk]; exact List.getElem_mem hkk
    have hs2 := szM_sub hm
    have hd2 : 0 ≤ deeper t.f0 dp ∧ deeper t.f0 dp ≤ dp + 1 := by unfold deeper; split <;> omega
    refine bind1_calls _ v _ _ A2 c2 A3 c3 A' c' B' d' (w.heap.size + 1) W2 ok (fun k hk => Nat.lt_of_lt_of_le (hok k hk) (Nat.le_trans hw.size hw2.size)) (blk_below hbv hw2) (fun W3 hw3 => ?_)
    have hall := (hw.trans (hw2.mono hw.size)).trans (hw3.mono (Nat.le_trans hw.size hw2.size))
    exact ih _ (by omega) v _ hd2.1 (by omega) A2 c2 A3 c3 A' c' B' d' W3 ok (fun k hk => Nat.lt_of_lt_of_le (hok k hk) hall.size) (hx2.later hw3) (hV.later hall)
  have hbe := bindM_eq v dp t
  have HX := Aside0.mk hX
  have HV := Aside0.mk hV
  have HOK := Aside0.mk hok
  have hsm := fun W (hw : Below w.heap.size w W) => sameM_tr t v _ _ W ⟨A, c, B, d, rfl, hX.rd.later hw⟩ ⟨A', c', B', d', rfl, hV.later hw⟩
  clear ih hn h0 h1 hls hsz hX hV hok
  generalize hY : bindM v dp t = y at *
  clear hY
  obtain ⟨x0, x1, x2, x3, x4, x5, x6⟩ := box7 BT
  obtain ⟨v0, v1, v2, v3, v4, v5, v6⟩ := box7 BV
  have hlt := blk_lt BR
  by_cases hk : t.f0 = 1
  · have k1 : (t.f0 == 1) = true := by rw [hk]; rfl
    have HK := Lib.hid hk
    clear hk
    by_cases hq : cmpM t v = 0
    · have hcq : (cmpM t v == 0) = true := by rw [hq]; rfl
      rw [hcq] at hsm
      rw [if_pos ⟨HK.out, hq⟩] at hbe
      clear hwi hq hcq
      skip
      go_enter Try.func111, Try.ntmps111
      go_wp2_with (go_at_call 18; (with_reducible refine (hsm _ hb0).mono ?_); rintro e w1 ⟨rfl, hb1⟩; have hb1' := below_step hb0 hb1; have BT1 := blk_below BT hb1; have BV1 := blk_below BV hb1; have BR1 := blk_below BR hb1; obtain ⟨x0, x1, x2, x3, x4, x5, x6⟩ := box7 BT1; obtain ⟨v0, v1, v2, v3, v4, v5, v6⟩ := box7 BV1; obtain ⟨e0, e1, e2, e3, e4, e5, e6⟩ := box7 BR1; have g0 := blk_frozen BR1 0; have g1 := blk_frozen BR1 1; have g2 := blk_frozen BR1 2; have g3 := blk_frozen BR1 3; have g4 := blk_frozen BR1 4; have g5 := blk_frozen BR1 5; have g6 := blk_frozen BR1 6)
      subst hbe
      refine bodyPost_ret (results_cell_row rfl _ _ (w.heap.size + 1 + 1) 27 #[.int .u8 3, .string ⟨#[]⟩, .bool false, .string ⟨#[]⟩, .slice none 0 0, .int .i64 dp, .slice none 0 0] (0, 0) _ rfl (set7l BR1) Try.underlying27 rfl (by kernel_rfl)) rfl ?_
      exact ⟨_, rfl, TrFM.zero _ _ _ _, (((((((hb1').setCell (by simp; omega) _).setCell (by simp; omega) _).setCell (by simp; omega) _).setCell (by simp; omega) _).setCell (by simp; omega) _).setCell (by simp; omega) _).setCell (by simp; omega) _⟩
    · have hcq : (cmpM t v == 0) = false := beq_eq_false_iff_ne.mpr hq
      rw [hcq] at hsm
      have hwi := hwi (fun h => hq h.2)
      clear hbe hq hcq
      go_enter Try.func111, Try.ntmps111
      go_wp2_with (first | (go_at_call 174; (with_reducible refine (hwi _ hb1' BV1).mono ?_); rintro e w2 ⟨r, rfl, hr, hb2⟩; obtain ⟨A4, c4, B4, d4, rfl, hW⟩ := hr; have BR2 := blk_below BR1 hb2; obtain ⟨e0, e1, e2, e3, e4, e5, e6⟩ := box7 BR2; have g0 := blk_frozen BR2 0; have g1 := blk_frozen BR2 1; have g2 := blk_frozen BR2 2; have g3 := blk_frozen BR2 3; have g4 := blk_frozen BR2 4; have g5 := blk_frozen BR2 5; have g6 := blk_frozen BR2 6) | (go_at_call 18; (with_reducible refine (hsm _ hb0).mono ?_); rintro e w1 ⟨rfl, hb1⟩; have hb1' := below_step hb0 hb1; have BT1 := blk_below BT hb1; have BV1 := blk_below BV hb1; have BR1 := blk_below BR hb1; obtain ⟨x0, x1, x2, x3, x4, x5, x6⟩ := box7 BT1; obtain ⟨v0, v1, v2, v3, v4, v5, v6⟩ := box7 BV1))
      refine bodyPost_ret (results_cell_row rfl _ _ (w.heap.size + 1 + 1) 27 #[.int .u8 y.f0, .string y.f1, .bool y.f2.f0, .string y.f2.f1, .slice A4 y.f2.f2.length c4, .int .i64 y.f3, .slice B4 y.f4.length d4] (0, 0) _ rfl (set7l BR2) Try.underlying27 rfl (by kernel_rfl)) rfl ?_
      exact PutPost.store HOK.out (by omega) (Nat.lt_of_lt_of_le hlt hb1.size) hb1' hb2 hW
  · have k1 : (t.f0 == 1) = false := beq_eq_false_iff_ne.mpr hk
    have hwi := hwi (fun h => hk h.1)
    clear hbe hk hsm
    go_enter Try.func111, Try.ntmps111
    go_wp2_with (go_at_call 174; (with_reducible refine (hwi _ hb0 BV).mono ?_); rintro e w2 ⟨r, rfl, hr, hb2⟩; obtain ⟨A4, c4, B4, d4, rfl, hW⟩ := hr; have BR2 := blk_below BR hb2; obtain ⟨e0, e1, e2, e3, e4, e5, e6⟩ := box7 BR2; have g0 := blk_frozen BR2 0; have g1 := blk_frozen BR2 1; have g2 := blk_frozen BR2 2; have g3 := blk_frozen BR2 3; have g4 := blk_frozen BR2 4; have g5 := blk_frozen BR2 5; have g6 := blk_frozen BR2 6)
    refine bodyPost_ret (results_cell_row rfl _ _ (w.heap.size + 1 + 1) 27 #[.int .u8 y.f0, .string y.f1, .bool y.f2.f0, .string y.f2.f1, .slice A4 y.f2.f2.length c4, .int .i64 y.f3, .slice B4 y.f4.length d4] (0, 0) _ rfl (set7l BR2) Try.underlying27 rfl (by kernel_rfl)) rfl ?_
    exact PutPost.store HOK.out (by omega) hlt hb0 hb2 hW
set_option maxHeartbeats 4000000 in
set_option maxRecDepth 100000 in
theorem free_calls (n : Nat) : ∀ (t : S27), szM t ≤ n → ∀ (v : S27) (dp : Int), 0 ≤ dp → dp + szM t ≤ 1000000000 → ∀ (A : Option Addr) (c : Nat) (B : Option Addr) (d : Nat) (A' : Option Addr) (c' : Nat) (B' : Option Addr) (d' : Nat) (w : World) (ok : Nat → Prop), (∀ k, ok k → k < w.heap.size) → RdF w ok t A c B d → RdF w ok v A' c' B' d' →
    Calls Try.prog 112 #[.agg #[.int .u8 t.f0, .string t.f1, .bool t.f2.f0, .string t.f2.f1, .slice A t.f2.f2.length c, .int .i64 t.f3, .slice B t.f4.length d], .agg #[.int .u8 v.f0, .string v.f1, .bool v.f2.f0, .string v.f2.f1, .slice A' v.f2.f2.length c', .int .i64 v.f3, .slice B' v.f4.length d'], .int .i64 dp] w (PutPost w ok (plugM v dp t)) := by
  induction n with
  | zero => intro t hn; have := szM_pos t; omega
  | succ n ih =>
  intro t hn v dp h0 h1 A c B d A' c' B' d' w ok hok hX hV
  have hb0 := below_three (w := w) (.cells #[.int .u8 t.f0, .string t.f1, .bool t.f2.f0, .string t.f2.f1, .slice A t.f2.f2.length c, .int .i64 t.f3, .slice B t.f4.length d] 27) (.cells #[.int .u8 v.f0, .string v.f1, .bool v.f2.f0, .string v.f2.f1, .slice A' v.f2.f2.length c', .int .i64 v.f3, .slice B' v.f4.length d'] 27) (.cells #[.int .u8 0, .string ⟨#[]⟩, .bool false, .string ⟨#[]⟩, .slice none 0 0, .int .i64 0, .slice none 0 0] 27)
  have BT := blk_alloc (blk_mid (w := w) (.cells #[.int .u8 t.f0, .string t.f1, .bool t.f2.f0, .string t.f2.f1, .slice A t.f2.f2.length c, .int .i64 t.f3, .slice B t.f4.length d] 27) (.cells #[.int .u8 v.f0, .string v.f1, .bool v.f2.f0, .string v.f2.f1, .slice A' v.f2.f2.length c', .int .i64 v.f3, .slice B' v.f4.length d'] 27)) (.cells #[.int .u8 0, .string ⟨#[]⟩, .bool false, .string ⟨#[]⟩, .slice none 0 0, .int .i64 0, .slice none 0 0] 27)
  have BV := blk_alloc (blk_top (w := w) (.cells #[.int .u8 t.f0, .string t.f1, .bool t.f2.f0, .string t.f2.f1, .slice A t.f2.f2.length c, .int .i64 t.f3, .slice B t.f4.length d] 27) (.cells #[.int .u8 v.f0, .string v.f1, .bool v.f2.f0, .string v.f2.f1, .slice A' v.f2.f2.length c', .int .i64 v.f3, .slice B' v.f4.length d'] 27)) (.cells #[.int .u8 0, .string ⟨#[]⟩, .bool false, .string ⟨#[]⟩, .slice none 0 0, .int .i64 0, .slice none 0 0] 27)
  have BR : ((((w.alloc (.cells #[.int .u8 t.f0, .string t.f1, .bool t.f2.f0, .string t.f2.f1, .slice A t.f2.f2.length c, .int .i64 t.f3, .slice B t.f4.length d] 27)).alloc (.cells #[.int .u8 v.f0, .string v.f1, .bool v.f2.f0, .string v.f2.f1, .slice A' v.f2.f2.length c', .int .i64 v.f3, .slice B' v.f4.length d'] 27)).alloc (.cells #[.int .u8 0, .string ⟨#[]⟩, .bool false, .string ⟨#[]⟩, .slice none 0 0, .int .i64 0, .slice none 0 0] 27))).heap[w.heap.size + 1 + 1]? = some (.cells #[.int .u8 0, .string ⟨#[]⟩, .bool false, .string ⟨#[]⟩, .slice none 0 0, .int .i64 0, .slice none 0 0] 27 (0, 0)) := blk_third (w := w) (.cells #[.int .u8 t.f0, .string t.f1, .bool t.f2.f0, .string t.f2.f1, .slice A t.f2.f2.length c, .int .i64 t.f3, .slice B t.f4.length d] 27) (.cells #[.int .u8 v.f0, .string v.f1, .bool v.f2.f0, .string v.f2.f1, .slice A' v.f2.f2.length c', .int .i64 v.f3, .slice B' v.f4.length d'] 27) (.cells #[.int .u8 0, .string ⟨#[]⟩, .bool false, .string ⟨#[]⟩, .slice none 0 0, .int .i64 0, .slice none 0 0] 27)
  have hls := szML_len t.f4
  have hsz := szM_eq t
  have hwi : ¬ (t.f0 = 3 ∧ t.f3 = dp) → ∀ W, Below w.heap.size w W → W.heap[w.heap.size + 1]? = some (.cells #[.int .u8 v.f0, .string v.f1, .bool v.f2.f0, .string v.f2.f1, .slice A' v.f2.f2.length c', .int .i64 v.f3, .slice B' v.f4.length d'] 27 (0, 0)) → Calls Try.prog 174 #[.agg #[.int .u8 t.f0, .string t.f1, .bool t.f2.f0, .string t.f2.f1, .slice A t.f2.f2.length c, .int .i64 t.f3, .slice B t.f4.length d], .int .i64 dp, .func (.func 176) #[] #[.pointer (some ⟨w.heap.size + 1, 0, none⟩)]] W (PutPost W ok (plugM v dp t)) := by
    intro hc W hw hbv
    rw [plugM_eq, if_neg hc]
    refine within_calls 176 #[.pointer (some ⟨w.heap.size + 1, 0, none⟩)] (enters_of Try.func176 (by kernel_rfl) rfl) (plugM v (deeper t.f0 dp)) t dp ⟨by omega, by omega⟩ (by omega) A c B d W ok (fun k hk => Nat.lt_of_lt_of_le (hok k hk) hw.size) (hX.later hw) ?_
    intro kk hkk A2 c2 A3 c3 W2 hw2 hx2
    have hm : rd_T27 t.f4 (kk : Int) ∈ t.f4 := by rw [rdM t.f4 kk hkk]; exact List.getElem_mem hkk
    have hs2 := szM_sub hm
    have hd2 : 0 ≤ deeper t.f0 dp ∧ deeper t.f0 dp ≤ dp + 1 := by unfold deeper; split <;> omega
    refine free1_calls _ v _ _ A2 c2 A3 c3 A' c' B' d' (w.heap.size + 1) W2 ok (fun k hk => Nat.lt_of_lt_of_le (hok k hk) (Nat.le_trans hw.size hw2.size)) (blk_below hbv hw2) (fun W3 hw3 => ?_)
    have hall := (hw.trans (hw2.mono hw.size)).trans (hw3.mono (Nat.le_trans hw.size hw2.size))
    exact ih _ (by omega) v _ hd2.1 (by omega) A2 c2 A3 c3 A' c' B' d' W3 ok (fun k hk => Nat.lt_of_lt_of_le (hok k hk) hall.size) (hx2.later hw3) (hV.later hall)
  have hbe := plugM_eq v dp t
  have HX := Aside0.mk hX
  have HV := Aside0.mk hV
  have HOK := Aside0.mk hok
  clear ih hn h0 h1 hls hsz hX hV hok
  generalize hY : plugM v dp t = y at *
  clear hY
  obtain ⟨x0, x1, x2, x3, x4, x5, x6⟩ := box7 BT
  obtain ⟨v0, v1, v2, v3, v4, v5, v6⟩ := box7 BV
  have hlt := blk_lt BR
  by_cases hk : t.f0 = 3
  · have k1 : (t.f0 == 3) = true := by rw [hk]; rfl
    have HK := Lib.hid hk
    clear hk
    by_cases hq : t.f3 = dp
    · have k2 : (t.f3 == dp) = true := by rw [hq]; exact beq_self_eq_true _
      rw [if_pos ⟨HK.out, hq⟩] at hbe
      clear hwi hq
      go_enter Try.func112, Try.ntmps112
      go_wp2_with fail
      have hbe := hbe.symm
      subst hbe
      have hb5 := below_three (w := w) (.cells #[.int .u8 t.f0, .string t.f1, .bool t.f2.f0, .string t.f2.f1, .slice A t.f2.f2.length c, .int .i64 t.f3, .slice B t.f4.length d] 27) (.cells #[.int .u8 v.f0, .string v.f1, .bool v.f2.f0, .string v.f2.f1, .slice A' v.f2.f2.length c', .int .i64 v.f3, .slice B' v.f4.length d'] 27) (.cells #[.int .u8 v.f0, .string v.f1, .bool v.f2.f0, .string v.f2.f1, .slice A' v.f2.f2.length c', .int .i64 v.f3, .slice B' v.f4.length d'] 27)
      refine bodyPost_ret (results_cell_row rfl _ _ (w.heap.size + 1 + 1) 27 #[.int .u8 v.f0, .string v.f1, .bool v.f2.f0, .string v.f2.f1, .slice A' v.f2.f2.length c', .int .i64 v.f3, .slice B' v.f4.length d'] (0, 0) _ rfl (blk_third (w := w) (.cells #[.int .u8 t.f0, .string t.f1, .bool t.f2.f0, .string t.f2.f1, .slice A t.f2.f2.length c, .int .i64 t.f3, .slice B t.f4.length d] 27) (.cells #[.int .u8 v.f0, .string v.f1, .bool v.f2.f0, .string v.f2.f1, .slice A' v.f2.f2.length c', .int .i64 v.f3, .slice B' v.f4.length d'] 27) (.cells #[.int .u8 v.f0, .string v.f1, .bool v.f2.f0, .string v.f2.f1, .slice A' v.f2.f2.length c', .int .i64 v.f3, .slice B' v.f4.length d'] 27)) Try.underlying27 rfl (by kernel_rfl)) rfl ?_
      exact ⟨_, rfl, ⟨_, _, _, _, rfl, (HV.out.later hb5).mono (fun k hk => .inl hk)⟩, hb5⟩
    · have k2 : (t.f3 == dp) = false := beq_eq_false_iff_ne.mpr hq
      have hwi := hwi (fun h => hq h.2)
      clear hbe hq
      go_enter Try.func112, Try.ntmps112
      go_wp2_with (go_at_call 174; (with_reducible refine (hwi _ hb0 BV).mono ?_); rintro e w2 ⟨r, rfl, hr, hb2⟩; obtain ⟨A4, c4, B4, d4, rfl, hW⟩ := hr; have BR2 := blk_below BR hb2; obtain ⟨e0, e1, e2, e3, e4, e5, e6⟩ := box7 BR2; have g0 := blk_frozen BR2 0; have g1 := blk_frozen BR2 1; have g2 := blk_frozen BR2 2; have g3 := blk_frozen BR2 3; have g4 := blk_frozen BR2 4; have g5 := blk_frozen BR2 5; have g6 := blk_frozen BR2 6)
      refine bodyPost_ret (results_cell_row rfl _ _ (w.heap.size + 1 + 1) 27 #[.int .u8 y.f0, .string y.f1, .bool y.f2.f0, .string y.f2.f1, .slice A4 y.f2.f2.length c4, .int .i64 y.f3, .slice B4 y.f4.length d4] (0, 0) _ rfl (set7l BR2) Try.underlying27 rfl (by kernel_rfl)) rfl ?_
      exact PutPost.store HOK.out (by omega) hlt hb0 hb2 hW
  · have k1 : (t.f0 == 3) = false := beq_eq_false_iff_ne.mpr hk
    have hwi := hwi (fun h => hk h.1)
    clear hbe hk
    go_enter Try.func112, Try.ntmps112
    go_wp2_with (go_at_call 174; (with_reducible refine (hwi _ hb0 BV).mono ?_); rintro e w2 ⟨r, rfl, hr, hb2⟩; obtain ⟨A4, c4, B4, d4, rfl, hW⟩ := hr; have BR2 := blk_below BR hb2; obtain ⟨e0, e1, e2, e3, e4, e5, e6⟩ := box7 BR2; have g0 := blk_frozen BR2 0; have g1 := blk_frozen BR2 1; have g2 := blk_frozen BR2 2; have g3 := blk_frozen BR2 3; have g4 := blk_frozen BR2 4; have g5 := blk_frozen BR2 5; have g6 := blk_frozen BR2 6)
    refine bodyPost_ret (results_cell_row rfl _ _ (w.heap.size + 1 + 1) 27 #[.int .u8 y.f0, .string y.f1, .bool y.f2.f0, .string y.f2.f1, .slice A4 y.f2.f2.length c4, .int .i64 y.f3, .slice B4 y.f4.length d4] (0, 0) _ rfl (set7l BR2) Try.underlying27 rfl (by kernel_rfl)) rfl ?_
    exact PutPost.store HOK.out (by omega) hlt hb0 hb2 hW
end Go.Proofs.Ytecplbgdalchdaa.Q
/- Proved here: the contracts of terms.leaf, Var and Const. Conditions: those that each theorem names. -/
namespace Go.Proofs.Ytecplbgdalchdaa.Q
open Go.RowKit Go.Shelf Go.Proofs.YtecplbgdalchdaaW.PrintWords Go.Proofs.YtecplbgdalchdaaW.PrintMore
set_option linter.unusedVariables false
set_option linter.unusedSimpArgs false
attribute [local go_sem] Oper.semAt_some


/-- A leaf. -/
def leafF (k : Int) (n : ByteArray) (t : S24) : S27 × Int := if chkB t = true then (if nmV n = true then (⟨k, n, t, 0, []⟩, 0) else (zM, 20)) else (zM, 10)
/-- A term of one's own, and an error. -/
def PairPost (w : World) (p : S27 × Int) (e : Ending) (w' : World) : Prop := ∃ r, e = .returned (.tuple #[r, .int .i64 p.2]) ∧ OwM w' (fun b => w.heap.size ≤ b) r p.1 ∧ Below w.heap.size w w'
set_option maxHeartbeats 4000000 in
set_option maxRecDepth 100000 in
theorem leaf_calls (k : Int) (n : ByteArray) (t : S24) (hn : okS n) (hf : fit t) (A : Option Addr) (c : Nat) (w : World) (hA : k24.C w A t.f2.length t.f2) (hc : t.f2.length ≤ c) : Calls Try.prog 114 #[.int .u8 k, .string n, .agg #[.bool t.f0, .string t.f1, .slice A t.f2.length c]] w (PairPost w (leafF k n t)) := by
  have hb0 := (two_new w (.cells #[.bool t.f0, .string t.f1, .slice A t.f2.length c] 24) (.cells #[.int .u8 0, .string ⟨#[]⟩, .bool false, .string ⟨#[]⟩, .slice none 0 0, .int .i64 0, .slice none 0 0] 27)).1
  have BT := (two_new w (.cells #[.bool t.f0, .string t.f1, .slice A t.f2.length c] 24) (.cells #[.int .u8 0, .string ⟨#[]⟩, .bool false, .string ⟨#[]⟩, .slice none 0 0, .int .i64 0, .slice none 0 0] 27)).2.1
  have BR := (two_new w (.cells #[.bool t.f0, .string t.f1, .slice A t.f2.length c] 24) (.cells #[.int .u8 0, .string ⟨#[]⟩, .bool false, .string ⟨#[]⟩, .slice none 0 0, .int .i64 0, .slice none 0 0] 27)).2.2
  obtain ⟨x0, x1, x2, _⟩ := box3s BT
  have ec := fun W (hw : Below w.heap.size w W) => tcheck_calls t A c W hf (Kd.C_below hA hw) hc
  have en := fun W => named_calls n hn W
  have hL : leafF k n t = if chkB t = true then (if nmV n = true then (⟨k, n, t, 0, []⟩, 0) else (zM, 20)) else (zM, 10) := rfl
  unfold PairPost
  have hlt := blk_lt BR
  by_cases hq : chkB t = true
  · rw [if_pos hq] at hL
    simp only [if_pos hq] at ec
    by_cases hm : nmV n = true
    · rw [if_pos hm] at hL
      rw [hm] at en
      have et := fun W (hw : Below w.heap.size w W) => twin_calls _ t A c W (Nat.le_refl _) (by have := (chkB_sh hq).2.1; omega) (Kd.C_below hA hw) hc
      rw [hL]
      clear hL hA hc hf hn hq hm
      go_enter Try.func114, Try.ntmps114
      go_wp2_with (first
        | (go_at_call 99; (with_reducible refine (et _ hb2').mono ?_); rintro e w3 ⟨v, rfl, hT, hb3⟩; have hb3' := below_step hb2' hb3; obtain ⟨A4, c4, hv4, _⟩ := hT.reads; subst hv4; have BR3 := blk_below BR2 hb3; obtain ⟨e0, e1, e2, e3, e4, e5, e6⟩ := box7 BR3; have g0 := blk_frozen BR3 0; have g1 := blk_frozen BR3 1; have g2 := blk_frozen BR3 2; have g3 := blk_frozen BR3 3; have g4 := blk_frozen BR3 4; have g5 := blk_frozen BR3 5; have g6 := blk_frozen BR3 6)
        | (go_at_call 178; (with_reducible refine (en _).mono ?_); rintro e w2 ⟨rfl, hb2⟩; have hb2' := below_step hb1' hb2; have BX2 := blk_below BX1 hb2; have BR2 := blk_below BR1 hb2; obtain ⟨x0, x1, x2, _⟩ := box3s BX2; obtain ⟨e0, e1, e2, e3, e4, e5, e6⟩ := box7 BR2; have g0 := blk_frozen BR2 0; have g1 := blk_frozen BR2 1; have g2 := blk_frozen BR2 2; have g3 := blk_frozen BR2 3; have g4 := blk_frozen BR2 4; have g5 := blk_frozen BR2 5; have g6 := blk_frozen BR2 6)
        | (go_at_call 113; (with_reducible refine (ec _ hb0).mono ?_); rintro e w1 ⟨rfl, hb1⟩; have hb1' := below_step hb0 hb1; have BX1 := blk_below BT hb1; have BR1 := blk_below BR hb1; obtain ⟨x0, x1, x2, _⟩ := box3s BX1; obtain ⟨e0, e1, e2, e3, e4, e5, e6⟩ := box7 BR1; have g0 := blk_frozen BR1 0; have g1 := blk_frozen BR1 1; have g2 := blk_frozen BR1 2; have g3 := blk_frozen BR1 3; have g4 := blk_frozen BR1 4; have g5 := blk_frozen BR1 5; have g6 := blk_frozen BR1 6))
      have hkf : ∀ b, b ≠ w.heap.size + 1 → ((((((((w3).setCell ⟨w.heap.size + 1, 0, none⟩ (.int .u8 k)).setCell ⟨w.heap.size + 1, 1, none⟩ (.string n)).setCell ⟨w.heap.size + 1, 2, none⟩ (.bool t.f0)).setCell ⟨w.heap.size + 1, 3, none⟩ (.string t.f1)).setCell ⟨w.heap.size + 1, 4, none⟩ (.slice A4 t.f2.length c4)).setCell ⟨w.heap.size + 1, 5, none⟩ (.int .i64 0)).setCell ⟨w.heap.size + 1, 6, none⟩ (.slice none 0 0)).heap[b]? = w3.heap[b]? := fun b hk => by rw [Below.heap_setCell _ _ _ b hk, Below.heap_setCell _ _ _ b hk, Below.heap_setCell _ _ _ b hk, Below.heap_setCell _ _ _ b hk, Below.heap_setCell _ _ _ b hk, Below.heap_setCell _ _ _ b hk, Below.heap_setCell _ _ _ b hk]
      refine bodyPost_ret (results_ct rfl _ _ (w.heap.size + 1) 27 #[.int .u8 k, .string n, .bool t.f0, .string t.f1, .slice A4 t.f2.length c4, .int .i64 0, .slice none 0 0] (0, 0) _ rfl (set7l BR3) Try.underlying27 rfl (by kernel_rfl)) rfl ?_
      have hs2 : w.heap.size + 1 < w2.heap.size := blk_lt BR2
      exact ⟨_, rfl, ⟨_, _, rfl, (hT.step (fun b hk _ => hkf b (by omega))).mono (fun b hk => by have := hb2'.size; omega), .nil _ _⟩, (((((((hb3').setCell (by simp) _).setCell (by simp) _).setCell (by simp) _).setCell (by simp) _).setCell (by simp) _).setCell (by simp) _).setCell (by simp) _⟩
    · rw [if_neg hm] at hL
      rw [Bool.eq_false_iff.mpr hm] at en
      rw [hL]
      clear hL hA hc hf hn hq hm
      go_enter Try.func114, Try.ntmps114
      go_wp2_with (first
        | (go_at_call 178; (with_reducible refine (en _).mono ?_); rintro e w2 ⟨rfl, hb2⟩; have hb2' := below_step hb1' hb2; have BX2 := blk_below BX1 hb2; have BR2 := blk_below BR1 hb2; obtain ⟨x0, x1, x2, _⟩ := box3s BX2; obtain ⟨e0, e1, e2, e3, e4, e5, e6⟩ := box7 BR2; have g0 := blk_frozen BR2 0; have g1 := blk_frozen BR2 1; have g2 := blk_frozen BR2 2; have g3 := blk_frozen BR2 3; have g4 := blk_frozen BR2 4; have g5 := blk_frozen BR2 5; have g6 := blk_frozen BR2 6)
        | (go_at_call 113; (with_reducible refine (ec _ hb0).mono ?_); rintro e w1 ⟨rfl, hb1⟩; have hb1' := below_step hb0 hb1; have BX1 := blk_below BT hb1; have BR1 := blk_below BR hb1; obtain ⟨x0, x1, x2, _⟩ := box3s BX1; obtain ⟨e0, e1, e2, e3, e4, e5, e6⟩ := box7 BR1; have g0 := blk_frozen BR1 0; have g1 := blk_frozen BR1 1; have g2 := blk_frozen BR1 2; have g3 := blk_frozen BR1 3; have g4 := blk_frozen BR1 4; have g5 := blk_frozen BR1 5; have g6 := blk_frozen BR1 6))
      refine bodyPost_ret (results_ct rfl _ _ (w.heap.size + 1) 27 #[.int .u8 0, .string ⟨#[]⟩, .bool false, .string ⟨#[]⟩, .slice none 0 0, .int .i64 0, .slice none 0 0] (0, 0) _ rfl (set7l BR2) Try.underlying27 rfl (by kernel_rfl)) rfl ?_
      exact ⟨_, rfl, OwM.zero _ _, (((((((hb2').setCell (by simp) _).setCell (by simp) _).setCell (by simp) _).setCell (by simp) _).setCell (by simp) _).setCell (by simp) _).setCell (by simp) _⟩
  · rw [if_neg hq] at hL
    simp only [if_neg hq] at ec
    rw [hL]
    clear hL hA hc hf hn hq en
    go_enter Try.func114, Try.ntmps114
    go_wp2_with (go_at_call 113; (with_reducible refine (ec _ hb0).mono ?_); rintro e w1 ⟨rfl, hb1⟩; have hb1' := below_step hb0 hb1; have BX1 := blk_below BT hb1; have BR1 := blk_below BR hb1; obtain ⟨x0, x1, x2, _⟩ := box3s BX1; obtain ⟨e0, e1, e2, e3, e4, e5, e6⟩ := box7 BR1; have g0 := blk_frozen BR1 0; have g1 := blk_frozen BR1 1; have g2 := blk_frozen BR1 2; have g3 := blk_frozen BR1 3; have g4 := blk_frozen BR1 4; have g5 := blk_frozen BR1 5; have g6 := blk_frozen BR1 6)
    refine bodyPost_ret (results_ct rfl _ _ (w.heap.size + 1) 27 #[.int .u8 0, .string ⟨#[]⟩, .bool false, .string ⟨#[]⟩, .slice none 0 0, .int .i64 0, .slice none 0 0] (0, 0) _ rfl (set7l BR1) Try.underlying27 rfl (by kernel_rfl)) rfl ?_
    exact ⟨_, rfl, OwM.zero _ _, (((((((hb1').setCell (by simp) _).setCell (by simp) _).setCell (by simp) _).setCell (by simp) _).setCell (by simp) _).setCell (by simp) _).setCell (by simp) _⟩
set_option maxHeartbeats 4000000 in
set_option maxRecDepth 100000 in
theorem var_tcalls (n : ByteArray) (t : S24) (hn : okS n) (hf : fit t) (a : Value) (w : World) (ha : Tr w a t) : Calls Try.prog 47 #[.string n, a] w (PairPost w (leafF 1 n t)) := by
  obtain ⟨A, c, rfl, hc, hA⟩ := ha
  have hb0 := (two_new w (.cells #[.bool t.f0, .string t.f1, .slice A t.f2.length c] 24) (.cells #[.int .u8 0, .string ⟨#[]⟩, .bool false, .string ⟨#[]⟩, .slice none 0 0, .int .i64 0, .slice none 0 0] 27)).1
  have BT := (two_new w (.cells #[.bool t.f0, .string t.f1, .slice A t.f2.length c] 24) (.cells #[.int .u8 0, .string ⟨#[]⟩, .bool false, .string ⟨#[]⟩, .slice none 0 0, .int .i64 0, .slice none 0 0] 27)).2.1
  have BR := (two_new w (.cells #[.bool t.f0, .string t.f1, .slice A t.f2.length c] 24) (.cells #[.int .u8 0, .string ⟨#[]⟩, .bool false, .string ⟨#[]⟩, .slice none 0 0, .int .i64 0, .slice none 0 0] 27)).2.2
  obtain ⟨x0, x1, x2, _⟩ := box3s BT
  have el := fun W (hw : Below w.heap.size w W) => leaf_calls 1 n t hn hf A c W (Kd.C_below hA hw) hc
  have hlt := blk_lt BR
  clear hA hc hf hn
  unfold PairPost at *
  generalize leafF 1 n t = r at *
  obtain ⟨y, er⟩ := r
  go_enter Try.func47, Try.ntmps47
  go_wp2_with (go_at_call 114; (with_reducible refine (el _ hb0).mono ?_); rintro e w2 ⟨r, rfl, hOw, hb2⟩; dsimp only at hOw ⊢; obtain ⟨vt, vs, hr, hT, hM⟩ := hOw; subst hr; obtain ⟨A4, c4, hv4, _⟩ := hT.reads; subst hv4; obtain ⟨A5, c5, hv5, _⟩ := hM.reads; subst hv5; have hb2' := below_step hb0 hb2; have BR2 := blk_below BR hb2; obtain ⟨e0, e1, e2, e3, e4, e5, e6⟩ := box7 BR2; have g0 := blk_frozen BR2 0; have g1 := blk_frozen BR2 1; have g2 := blk_frozen BR2 2; have g3 := blk_frozen BR2 3; have g4 := blk_frozen BR2 4; have g5 := blk_frozen BR2 5; have g6 := blk_frozen BR2 6)
  have hkf : ∀ b, b ≠ w.heap.size + 1 → ((((((((w2).setCell ⟨w.heap.size + 1, 0, none⟩ (.int .u8 y.f0)).setCell ⟨w.heap.size + 1, 1, none⟩ (.string y.f1)).setCell ⟨w.heap.size + 1, 2, none⟩ (.bool y.f2.f0)).setCell ⟨w.heap.size + 1, 3, none⟩ (.string y.f2.f1)).setCell ⟨w.heap.size + 1, 4, none⟩ (.slice A4 y.f2.f2.length c4)).setCell ⟨w.heap.size + 1, 5, none⟩ (.int .i64 y.f3)).setCell ⟨w.heap.size + 1, 6, none⟩ (.slice A5 y.f4.length c5)).heap[b]? = w2.heap[b]? := fun b hk => by rw [Below.heap_setCell _ _ _ b hk, Below.heap_setCell _ _ _ b hk, Below.heap_setCell _ _ _ b hk, Below.heap_setCell _ _ _ b hk, Below.heap_setCell _ _ _ b hk, Below.heap_setCell _ _ _ b hk, Below.heap_setCell _ _ _ b hk]
  refine bodyPost_ret (results_ct rfl _ _ (w.heap.size + 1) 27 #[.int .u8 y.f0, .string y.f1, .bool y.f2.f0, .string y.f2.f1, .slice A4 y.f2.f2.length c4, .int .i64 y.f3, .slice A5 y.f4.length c5] (0, 0) _ rfl (set7l BR2) Try.underlying27 rfl (by kernel_rfl)) rfl ?_
  exact ⟨_, rfl, ⟨_, _, rfl, (hT.step (fun b hk _ => hkf b (by omega))).mono (fun b hk => by omega), (hM.step (fun b hk _ => hkf b (by omega))).mono (fun b hk => by omega)⟩, (((((((hb2').setCell (by simp) _).setCell (by simp) _).setCell (by simp) _).setCell (by simp) _).setCell (by simp) _).setCell (by simp) _).setCell (by simp) _⟩
end Go.Proofs.Ytecplbgdalchdaa.Q
/- Proved here: the contracts of terms.Lambda and Open. Conditions: those that each theorem names. -/
namespace Go.Proofs.Ytecplbgdalchdaa.Q
open Go.RowKit Go.Shelf Go.Proofs.YtecplbgdalchdaaW.PrintWords Go.Proofs.YtecplbgdalchdaaW.PrintMore
set_option linter.unusedVariables false
set_option linter.unusedSimpArgs false
attribute [local go_sem] Oper.semAt_some


/-- A result, stored into one's own box. -/
theorem PairPost.store {w W2 w2 : World} {g : Nat} {r : S27} {er : Int} {A4 A5 : Option Addr} {c4 c5 : Nat} (hg : w.heap.size ≤ g) (hg2 : g < W2.heap.size) (hb : Below w.heap.size w W2) (hb2 : Below W2.heap.size W2 w2) (hO : OwM w2 (fun k => W2.heap.size ≤ k) (.agg #[.int .u8 r.f0, .string r.f1, .bool r.f2.f0, .string r.f2.f1, .slice A4 r.f2.f2.length c4, .int .i64 r.f3, .slice A5 r.f4.length c5]) r) :
    PairPost w (r, er) (.returned (.tuple #[.agg #[.int .u8 r.f0, .string r.f1, .bool r.f2.f0, .string r.f2.f1, .slice A4 r.f2.f2.length c4, .int .i64 r.f3, .slice A5 r.f4.length c5], .int .i64 er])) ((((((((w2).setCell ⟨g, 0, none⟩ (.int .u8 r.f0)).setCell ⟨g, 1, none⟩ (.string r.f1)).setCell ⟨g, 2, none⟩ (.bool r.f2.f0)).setCell ⟨g, 3, none⟩ (.string r.f2.f1)).setCell ⟨g, 4, none⟩ (.slice A4 r.f2.f2.length c4)).setCell ⟨g, 5, none⟩ (.int .i64 r.f3)).setCell ⟨g, 6, none⟩ (.slice A5 r.f4.length c5)) := by
  have hkf : ∀ k, k ≠ g → ((((((((w2).setCell ⟨g, 0, none⟩ (.int .u8 r.f0)).setCell ⟨g, 1, none⟩ (.string r.f1)).setCell ⟨g, 2, none⟩ (.bool r.f2.f0)).setCell ⟨g, 3, none⟩ (.string r.f2.f1)).setCell ⟨g, 4, none⟩ (.slice A4 r.f2.f2.length c4)).setCell ⟨g, 5, none⟩ (.int .i64 r.f3)).setCell ⟨g, 6, none⟩ (.slice A5 r.f4.length c5)).heap[k]? = w2.heap[k]? := fun k hk => by rw [Below.heap_setCell _ _ _ k hk, Below.heap_setCell _ _ _ k hk, Below.heap_setCell _ _ _ k hk, Below.heap_setCell _ _ _ k hk, Below.heap_setCell _ _ _ k hk, Below.heap_setCell _ _ _ k hk, Below.heap_setCell _ _ _ k hk]
  obtain ⟨vt, vs, he, hT, hM⟩ := hO
  simp only [Value.agg.injEq, Array.mk.injEq, List.cons.injEq, and_true, true_and] at he
  obtain ⟨rfl, rfl⟩ := he
  have := hb.size
  exact ⟨_, rfl, ⟨_, _, rfl, (hT.step (fun k hk _ => hkf k (by omega))).mono (fun k hk => by omega), (hM.step (fun k hk _ => hkf k (by omega))).mono (fun k hk => by omega)⟩, (((((((below_step hb hb2).setCell (by omega) _).setCell (by omega) _).setCell (by omega) _).setCell (by omega) _).setCell (by omega) _).setCell (by omega) _).setCell (by omega) _⟩
theorem OwM.cells {w : World} {ok : Nat → Prop} {a : Value} {x : S27} (h : OwM w ok a x) : ∃ A c B d, a = .agg #[.int .u8 x.f0, .string x.f1, .bool x.f2.f0, .string x.f2.f1, .slice A x.f2.f2.length c, .int .i64 x.f3, .slice B x.f4.length d] := by
  obtain ⟨vt, vs, rfl, hT, hM⟩ := h
  obtain ⟨A4, c4, hv4, _⟩ := hT.reads
  obtain ⟨A5, c5, hv5, _⟩ := hM.reads
  subst hv4 hv5
  exact ⟨_, _, _, _, rfl⟩
set_option maxHeartbeats 4000000 in
set_option maxRecDepth 100000 in
theorem open_abs (n : ByteArray) (ty : S24) (z y : S27) (hfx : fitM ⟨5, n, ty, 0, [z]⟩) (hfy : fitM y) (hcx : chkM ⟨5, n, ty, 0, [z]⟩ = 0) (hcy : chkM y = 0) (hk : y.f0 = 1) (ht : cmpT y.f2 ty = 0) (A : Option Addr) (c : Nat) (B : Option Addr) (d : Nat) (A' : Option Addr) (c' : Nat) (B' : Option Addr) (d' : Nat) (w : World) (hx : RdM w ⟨5, n, ty, 0, [z]⟩ A c B d) (hy : RdM w y A' c' B' d') :
    Calls Try.prog 45 #[.agg #[.int .u8 5, .string n, .bool ty.f0, .string ty.f1, .slice A ty.f2.length c, .int .i64 0, .slice B 1 d], .agg #[.int .u8 y.f0, .string y.f1, .bool y.f2.f0, .string y.f2.f1, .slice A' y.f2.f2.length c', .int .i64 y.f3, .slice B' y.f4.length d']] w (PairPost w (okM (plugM y 0 z))) := by
  obtain ⟨ad, A7, c7, B7, d7, rfl, hZ, z0, z1, z2, z3, z4, z5, z6⟩ := tm_one (x := z) (Kd.C_F k27_heap hx.2.1) hx.2.2
  have hadb : ad.block < w.heap.size := World.block_lt_of_cell? w ad z0
  have eb : ∀ W, Below w.heap.size w W → Calls Try.prog 109 #[.agg #[.int .u8 5, .string n, .bool ty.f0, .string ty.f1, .slice A ty.f2.length c, .int .i64 0, .slice (some ad) 1 d], .agg #[.int .u8 y.f0, .string y.f1, .bool y.f2.f0, .string y.f2.f1, .slice A' y.f2.f2.length c', .int .i64 y.f3, .slice B' y.f4.length d']] W fun e w' => e = .returned (.int .i64 0) ∧ Below W.heap.size W w' := by
    intro W hw
    have h := both_tr ⟨5, n, ty, 0, [z]⟩ y hfx hfy (.agg #[.int .u8 5, .string n, .bool ty.f0, .string ty.f1, .slice A ty.f2.length c, .int .i64 0, .slice (some ad) 1 d]) (.agg #[.int .u8 y.f0, .string y.f1, .bool y.f2.f0, .string y.f2.f1, .slice A' y.f2.f2.length c', .int .i64 y.f3, .slice B' y.f4.length d']) W ⟨A, c, some ad, d, rfl, hx.later hw⟩ ⟨A', c', B', d', rfl, hy.later hw⟩
    rw [show bothE ⟨5, n, ty, 0, [z]⟩ y = 0 by unfold bothE; rw [if_pos hcx]; exact hcy] at h
    exact h
  have hb0 := below_three (w := w) (.cells #[.int .u8 5, .string n, .bool ty.f0, .string ty.f1, .slice A ty.f2.length c, .int .i64 0, .slice (some ad) 1 d] 27) (.cells #[.int .u8 y.f0, .string y.f1, .bool y.f2.f0, .string y.f2.f1, .slice A' y.f2.f2.length c', .int .i64 y.f3, .slice B' y.f4.length d'] 27) (.cells #[.int .u8 0, .string ⟨#[]⟩, .bool false, .string ⟨#[]⟩, .slice none 0 0, .int .i64 0, .slice none 0 0] 27)
  have BX := blk_alloc (blk_mid (w := w) (.cells #[.int .u8 5, .string n, .bool ty.f0, .string ty.f1, .slice A ty.f2.length c, .int .i64 0, .slice (some ad) 1 d] 27) (.cells #[.int .u8 y.f0, .string y.f1, .bool y.f2.f0, .string y.f2.f1, .slice A' y.f2.f2.length c', .int .i64 y.f3, .slice B' y.f4.length d'] 27)) (.cells #[.int .u8 0, .string ⟨#[]⟩, .bool false, .string ⟨#[]⟩, .slice none 0 0, .int .i64 0, .slice none 0 0] 27)
  have BY := blk_alloc (blk_top (w := w) (.cells #[.int .u8 5, .string n, .bool ty.f0, .string ty.f1, .slice A ty.f2.length c, .int .i64 0, .slice (some ad) 1 d] 27) (.cells #[.int .u8 y.f0, .string y.f1, .bool y.f2.f0, .string y.f2.f1, .slice A' y.f2.f2.length c', .int .i64 y.f3, .slice B' y.f4.length d'] 27)) (.cells #[.int .u8 0, .string ⟨#[]⟩, .bool false, .string ⟨#[]⟩, .slice none 0 0, .int .i64 0, .slice none 0 0] 27)
  have BR : ((((w.alloc (.cells #[.int .u8 5, .string n, .bool ty.f0, .string ty.f1, .slice A ty.f2.length c, .int .i64 0, .slice (some ad) 1 d] 27)).alloc (.cells #[.int .u8 y.f0, .string y.f1, .bool y.f2.f0, .string y.f2.f1, .slice A' y.f2.f2.length c', .int .i64 y.f3, .slice B' y.f4.length d'] 27)).alloc (.cells #[.int .u8 0, .string ⟨#[]⟩, .bool false, .string ⟨#[]⟩, .slice none 0 0, .int .i64 0, .slice none 0 0] 27))).heap[w.heap.size + 1 + 1]? = some (.cells #[.int .u8 0, .string ⟨#[]⟩, .bool false, .string ⟨#[]⟩, .slice none 0 0, .int .i64 0, .slice none 0 0] 27 (0, 0)) := blk_third (w := w) (.cells #[.int .u8 5, .string n, .bool ty.f0, .string ty.f1, .slice A ty.f2.length c, .int .i64 0, .slice (some ad) 1 d] 27) (.cells #[.int .u8 y.f0, .string y.f1, .bool y.f2.f0, .string y.f2.f1, .slice A' y.f2.f2.length c', .int .i64 y.f3, .slice B' y.f4.length d'] 27) (.cells #[.int .u8 0, .string ⟨#[]⟩, .bool false, .string ⟨#[]⟩, .slice none 0 0, .int .i64 0, .slice none 0 0] 27)
  have hlt := blk_lt BR
  obtain ⟨x0, x1, x2, x3, x4, x5, x6⟩ := box7 BX; obtain ⟨y0, y1, y2, y3, y4, y5, y6⟩ := box7 BY
  have es := fun W (hw : Below w.heap.size w W) => same_tr y.f2 ty (.agg #[.bool y.f2.f0, .string y.f2.f1, .slice A' y.f2.f2.length c']) (.agg #[.bool ty.f0, .string ty.f1, .slice A ty.f2.length c]) W (hy.later hw).ty (RdM.ty (x := ⟨5, n, ty, 0, [z]⟩) (hx.later hw))
  rw [ht] at es
  have p1 : (y.f0 != 1) = false := bne_eq_false_iff_eq.mpr hk
  have hft := (chkM_ok hcy).2.2
  have hy4 : y.f4 = [] := (lf_inv hft (.inl hk)).2.2.2.1
  have hzf : fitM z := fitM_sub hfx (by simp)
  have hpf := plug_fit y z hy4 (allM_top hfy.1) 0 hzf.1
  have hfp : fitM (plugM y 0 z) := ⟨hpf.1, by have := hpf.2; have := hzf.2; omega⟩
  have hsz := hzf.2
  have ef := fun W (hw : Below w.heap.size w W) => free_calls _ z (Nat.le_refl _) y 0 (by omega) (by omega) A7 c7 B7 d7 A' c' B' d' W (fun k => k < W.heap.size) (fun k hk => hk) ⟨⟨Kd.C_F k24_heap (hZ.rd.later hw).1.1, hZ.1.2⟩, Kd.C_F k27_heap (hZ.rd.later hw).2.1, hZ.2.2⟩ ⟨⟨Kd.C_F k24_heap (hy.later hw).1.1, hy.1.2⟩, Kd.C_F k27_heap (hy.later hw).2.1, hy.2.2⟩
  have ew := fun A1 c1 B1 d1 W (h : RdM W (plugM y 0 z) A1 c1 B1 d1) => whole_calls (plugM y 0 z) hfp A1 c1 B1 d1 W h
  have hOk : okM (plugM y 0 z) = ((okM (plugM y 0 z)).1, chkM (plugM y 0 z)) := Prod.ext rfl (okM_snd _)
  rw [hOk]
  unfold WholePost at ew
  clear hOk hfp hpf hzf hy4 hft hx hy hk ht hcx hcy hfx hfy hZ hsz
  generalize plugM y 0 z = m at *
  generalize chkM m = er at *
  generalize (okM m).1 = rr at *
  go_enter Try.func45, Try.ntmps45
  go_wp2_with (first
    | (go_at_call 52; (with_reducible refine (es _ hb1').mono ?_); rintro e w4 ⟨rfl, hb4⟩; have hb4' := below_step hb1' hb4; have BX4 := blk_below BX1 hb4; have BY4 := blk_below BY1 hb4; have BR4 := blk_below BR1 hb4; obtain ⟨x0, x1, x2, x3, x4, x5, x6⟩ := box7 BX4; obtain ⟨y0, y1, y2, y3, y4, y5, y6⟩ := box7 BY4)
    | (go_at_call 109; (with_reducible refine (eb _ hb0).mono ?_); rintro e w1 ⟨rfl, hb1⟩; have hb1' := below_step hb0 hb1; have BX1 := blk_below BX hb1; have BY1 := blk_below BY hb1; have BR1 := blk_below BR hb1; obtain ⟨x0, x1, x2, x3, x4, x5, x6⟩ := box7 BX1; obtain ⟨y0, y1, y2, y3, y4, y5, y6⟩ := box7 BY1; obtain ⟨e0, e1, e2, e3, e4, e5, e6⟩ := box7 BR1; have g0 := blk_frozen BR1 0; have g1 := blk_frozen BR1 1; have g2 := blk_frozen BR1 2; have g3 := blk_frozen BR1 3; have g4 := blk_frozen BR1 4; have g5 := blk_frozen BR1 5; have g6 := blk_frozen BR1 6))
  have hD := below_drew1 (Below.refl w4.heap.size w4)
  have hbD := below_step hb4' hD
  replace z0 := pw_cell_below hbD z0
  replace z1 := pw_cell_below hbD z1
  replace z2 := pw_cell_below hbD z2
  replace z3 := pw_cell_below hbD z3
  replace z4 := pw_cell_below hbD z4
  replace z5 := pw_cell_below hbD z5
  replace z6 := pw_cell_below hbD z6
  have hK0 : (w4.drew.cell? ⟨w.heap.size, 0, none⟩ = some (.int .u8 5) ∧ w4.drew.cell? ⟨w.heap.size, 1, none⟩ = some (.string n) ∧ w4.drew.cell? ⟨w.heap.size, 2, none⟩ = some (.bool ty.f0) ∧ w4.drew.cell? ⟨w.heap.size, 3, none⟩ = some (.string ty.f1) ∧ w4.drew.cell? ⟨w.heap.size, 4, none⟩ = some (.slice A ty.f2.length c) ∧ w4.drew.cell? ⟨w.heap.size, 5, none⟩ = some (.int .i64 0) ∧ w4.drew.cell? ⟨w.heap.size, 6, none⟩ = some (.slice (some ad) 1 d)) ∧ BxM w4.drew (w.heap.size + 1) y A' c' B' d' ∧ (w4.drew.cell? ad = some (.int .u8 z.f0) ∧ w4.drew.cell? ⟨ad.block, ad.off + 1, none⟩ = some (.string z.f1) ∧ w4.drew.cell? ⟨ad.block, ad.off + 2, none⟩ = some (.bool z.f2.f0) ∧ w4.drew.cell? ⟨ad.block, ad.off + 3, none⟩ = some (.string z.f2.f1) ∧ w4.drew.cell? ⟨ad.block, ad.off + 4, none⟩ = some (.slice A7 z.f2.f2.length c7) ∧ w4.drew.cell? ⟨ad.block, ad.off + 5, none⟩ = some (.int .i64 z.f3) ∧ w4.drew.cell? ⟨ad.block, ad.off + 6, none⟩ = some (.slice B7 z.f4.length d7)) := ⟨box7 (blk_below BX4 hD), box7 (blk_below BY4 hD), ⟨z0, z1, z2, z3, z4, z5, z6⟩⟩
  refine wp_region_held_drew (S := fun W => (W.cell? ⟨w.heap.size, 0, none⟩ = some (.int .u8 5) ∧ W.cell? ⟨w.heap.size, 1, none⟩ = some (.string n) ∧ W.cell? ⟨w.heap.size, 2, none⟩ = some (.bool ty.f0) ∧ W.cell? ⟨w.heap.size, 3, none⟩ = some (.string ty.f1) ∧ W.cell? ⟨w.heap.size, 4, none⟩ = some (.slice A ty.f2.length c) ∧ W.cell? ⟨w.heap.size, 5, none⟩ = some (.int .i64 0) ∧ W.cell? ⟨w.heap.size, 6, none⟩ = some (.slice (some ad) 1 d)) ∧ BxM W (w.heap.size + 1) y A' c' B' d' ∧ (W.cell? ad = some (.int .u8 z.f0) ∧ W.cell? ⟨ad.block, ad.off + 1, none⟩ = some (.string z.f1) ∧ W.cell? ⟨ad.block, ad.off + 2, none⟩ = some (.bool z.f2.f0) ∧ W.cell? ⟨ad.block, ad.off + 3, none⟩ = some (.string z.f2.f1) ∧ W.cell? ⟨ad.block, ad.off + 4, none⟩ = some (.slice A7 z.f2.f2.length c7) ∧ W.cell? ⟨ad.block, ad.off + 5, none⟩ = some (.int .i64 z.f3) ∧ W.cell? ⟨ad.block, ad.off + 6, none⟩ = some (.slice B7 z.f4.length d7))) (by kernel_rfl) (by with_reducible exact hK0) (fun hHeld => ?_)
  refine wpAnyH_take (i := 0) (oi := { dst := some 30, op := Op.fieldAddr 27 (Operand.tmp 2) 4, type := 0, pos := "terms.go:289", after := #[], guard := none }) (v := ?_) rfl (by kernel_rfl) (by kernel_rfl) (by kernel_rfl) (fun _ _ _ h => h) (Or.inl ⟨by rfl, ?_⟩) (by assumption) ?_
  rotate_left
  · intro w' hSw; (try dsimp only at hSw); go_simp; try with_reducible rfl
  try simp only [Act.put, List.setIfInBounds_toArray, List.set_cons_zero, List.set_cons_succ]
  refine wpAnyH_take (i := 1) (oi := { dst := some 31, op := Op.load 25 (Operand.tmp 30), type := 25, pos := "terms.go:289", after := #[{ on := 0, ground := Ground.data }], guard := none }) (v := ?_) rfl (by kernel_rfl) (by kernel_rfl) (by kernel_rfl) (fun _ _ _ h => h) (Or.inl ⟨by rfl, ?_⟩) (by assumption) ?_
  rotate_left
  · intro w' hSw; (try dsimp only at hSw); go_simp; try with_reducible rfl
  try simp only [Act.put, List.setIfInBounds_toArray, List.set_cons_zero, List.set_cons_succ]
  refine wpAnyH_take (i := 2) (oi := { dst := some 32, op := Op.indexAddr 25 (Operand.tmp 31) (Operand.const (Value.int IntKind.i64 0)), type := 0, pos := "terms.go:289", after := #[{ on := 1, ground := Ground.data }], guard := none }) (v := ?_) rfl (by kernel_rfl) (by kernel_rfl) (by kernel_rfl) (fun _ _ _ h => h) (Or.inl ⟨by rfl, ?_⟩) (by assumption) ?_
  rotate_left
  · intro w' hSw; (try dsimp only at hSw); go_simp; try with_reducible rfl
  try simp only [Act.put, List.setIfInBounds_toArray, List.set_cons_zero, List.set_cons_succ]
  refine wpAnyH_take (i := 3) (oi := { dst := some 33, op := Op.load 27 (Operand.tmp 32), type := 27, pos := "terms.go:289", after := #[{ on := 2, ground := Ground.data }], guard := none }) (v := ?_) rfl (by kernel_rfl) (by kernel_rfl) (by kernel_rfl) (fun _ _ _ h => h) (Or.inl ⟨by rfl, ?_⟩) (by assumption) ?_
  rotate_left
  · intro w' hSw; (try dsimp only at hSw); go_simp; try with_reducible rfl
  try simp only [Act.put, List.setIfInBounds_toArray, List.set_cons_zero, List.set_cons_succ]
  refine wpAnyH_take (i := 4) (oi := { dst := some 34, op := Op.load 27 (Operand.tmp 3), type := 27, pos := "terms.go:289", after := #[], guard := none }) (v := ?_) rfl (by kernel_rfl) (by kernel_rfl) (by kernel_rfl) (fun _ _ _ h => h) (Or.inl ⟨by rfl, ?_⟩) (by assumption) ?_
  rotate_left
  · intro w' hSw; (try dsimp only at hSw); go_simp; try with_reducible rfl
  try simp only [Act.put, List.setIfInBounds_toArray, List.set_cons_zero, List.set_cons_succ]
  refine wpAnyH_ready (rs := [5]) (by kernel_rfl) (by simp) ?_
  refine AllReadyH.cons (o := { dst := some 35, op := Op.call { callee := Callee.value (Operand.func 112), args := #[Operand.tmp 33, Operand.tmp 34, Operand.const (Value.int IntKind.i64 0)], argTypes := #[27, 27, 3] }, type := 27, pos := "terms.go:289", after := #[{ on := 3, ground := Ground.data }, { on := 4, ground := Ground.data }], guard := none }) rfl (fun K hK => ?_) AllReadyH.nil
  go_simp
  go_wp2_with (go_at_call 112; (with_reducible refine (ef _ hbD).mono ?_); rintro e w2 ⟨r2, rfl, hP, hb2⟩; obtain ⟨A4, c4, B4, d4, rfl, hz⟩ := hP; have hb2' := below_step hbD hb2; have BR2 := blk_below BR4 (below_step hD hb2); have BX2 := blk_below BX4 (below_step hD hb2); have BY2 := blk_below BY4 (below_step hD hb2); replace z0 := pw_cell_below hb2 z0; replace z1 := pw_cell_below hb2 z1; replace z2 := pw_cell_below hb2 z2; replace z3 := pw_cell_below hb2 z3; replace z4 := pw_cell_below hb2 z4; replace z5 := pw_cell_below hb2 z5; replace z6 := pw_cell_below hb2 z6)
  refine hK.out _ _ (by exact ⟨box7 BX2, box7 BY2, ⟨z0, z1, z2, z3, z4, z5, z6⟩⟩) (fun hHeld => ?_)
  clear hK K
  try simp only [Act.put, List.setIfInBounds_toArray, List.set_cons_zero, List.set_cons_succ]
  refine wpAnyH_ready (rs := [6]) (by kernel_rfl) (by simp) ?_
  refine AllReadyH.cons (o := { dst := some 36, op := Op.call { callee := Callee.value (Operand.func 110), args := #[Operand.tmp 35], argTypes := #[27] }, type := 58, pos := "terms.go:289", after := #[{ on := 5, ground := Ground.data }, { on := 5, ground := Ground.chain }], guard := none }) rfl (fun K hK => ?_) AllReadyH.nil
  go_simp
  go_wp2_with (go_at_call 110; (with_reducible refine (ew _ _ _ _ _ hz.rd).mono ?_); rintro e w3 ⟨r3, rfl, hO3, hb3⟩; obtain ⟨A5, c5, B5, d5, he5⟩ := hO3.cells; subst he5; have BR3 := blk_below BR2 hb3; have BX3 := blk_below BX2 hb3; have BY3 := blk_below BY2 hb3; replace z0 := pw_cell_below hb3 z0; replace z1 := pw_cell_below hb3 z1; replace z2 := pw_cell_below hb3 z2; replace z3 := pw_cell_below hb3 z3; replace z4 := pw_cell_below hb3 z4; replace z5 := pw_cell_below hb3 z5; replace z6 := pw_cell_below hb3 z6; obtain ⟨e0, e1, e2, e3, e4, e5, e6⟩ := box7 BR3; have g0 := blk_frozen BR3 0; have g1 := blk_frozen BR3 1; have g2 := blk_frozen BR3 2; have g3 := blk_frozen BR3 3; have g4 := blk_frozen BR3 4; have g5 := blk_frozen BR3 5; have g6 := blk_frozen BR3 6)
  refine hK.out _ _ (by exact ⟨box7 BX3, box7 BY3, ⟨z0, z1, z2, z3, z4, z5, z6⟩⟩) (fun hHeld => ?_)
  clear hK K
  try simp only [Act.put, List.setIfInBounds_toArray, List.set_cons_zero, List.set_cons_succ]
  refine wpAnyH_take (i := 7) (oi := { dst := some 37, op := Op.extract (Operand.tmp 36) 0, type := 27, pos := "terms.go:289", after := #[{ on := 6, ground := Ground.data }], guard := none }) (v := ?_) rfl (by kernel_rfl) (by kernel_rfl) (by kernel_rfl) (fun _ _ _ h => h) (Or.inl ⟨by rfl, ?_⟩) (by assumption) ?_
  rotate_left
  · intro w' hSw; (try dsimp only at hSw); go_simp; try with_reducible rfl
  try simp only [Act.put, List.setIfInBounds_toArray, List.set_cons_zero, List.set_cons_succ]
  refine wpAnyH_take (i := 8) (oi := { dst := some 38, op := Op.extract (Operand.tmp 36) 1, type := 34, pos := "terms.go:289", after := #[{ on := 6, ground := Ground.data }], guard := none }) (v := ?_) rfl (by kernel_rfl) (by kernel_rfl) (by kernel_rfl) (fun _ _ _ h => h) (Or.inl ⟨by rfl, ?_⟩) (by assumption) ?_
  rotate_left
  · intro w' hSw; (try dsimp only at hSw); go_simp; try with_reducible rfl
  try simp only [Act.put, List.setIfInBounds_toArray, List.set_cons_zero, List.set_cons_succ]
  refine wpAnyH_ready (rs := [9]) (by kernel_rfl) (by simp) ?_
  refine AllReadyH.cons (o := { dst := none, op := Op.store 27 (Operand.tmp 4) (Operand.tmp 37), type := 0, pos := "terms.go:289", after := #[{ on := 7, ground := Ground.data }, { on := 6, ground := Ground.chain }, { on := 0, ground := Ground.phase }, { on := 1, ground := Ground.phase }, { on := 2, ground := Ground.phase }, { on := 3, ground := Ground.phase }, { on := 4, ground := Ground.phase }, { on := 5, ground := Ground.phase }, { on := 6, ground := Ground.phase }, { on := 7, ground := Ground.phase }, { on := 8, ground := Ground.phase }], guard := none }) rfl (fun K hK => ?_) AllReadyH.nil
  go_simp
  refine hK.out _ _ (by exact ⟨box7 (blk_far (blk_far (blk_far (blk_far (blk_far (blk_far (blk_far (BX3) (by dsimp only; omega) _) (by dsimp only; omega) _) (by dsimp only; omega) _) (by dsimp only; omega) _) (by dsimp only; omega) _) (by dsimp only; omega) _) (by dsimp only; omega) _), box7 (blk_far (blk_far (blk_far (blk_far (blk_far (blk_far (blk_far (BY3) (by dsimp only; omega) _) (by dsimp only; omega) _) (by dsimp only; omega) _) (by dsimp only; omega) _) (by dsimp only; omega) _) (by dsimp only; omega) _) (by dsimp only; omega) _), ⟨cell_away (cell_away (cell_away (cell_away (cell_away (cell_away (cell_away (z0) (by dsimp only; omega)) (by dsimp only; omega)) (by dsimp only; omega)) (by dsimp only; omega)) (by dsimp only; omega)) (by dsimp only; omega)) (by dsimp only; omega), cell_away (cell_away (cell_away (cell_away (cell_away (cell_away (cell_away (z1) (by dsimp only; omega)) (by dsimp only; omega)) (by dsimp only; omega)) (by dsimp only; omega)) (by dsimp only; omega)) (by dsimp only; omega)) (by dsimp only; omega), cell_away (cell_away (cell_away (cell_away (cell_away (cell_away (cell_away (z2) (by dsimp only; omega)) (by dsimp only; omega)) (by dsimp only; omega)) (by dsimp only; omega)) (by dsimp only; omega)) (by dsimp only; omega)) (by dsimp only; omega), cell_away (cell_away (cell_away (cell_away (cell_away (cell_away (cell_away (z3) (by dsimp only; omega)) (by dsimp only; omega)) (by dsimp only; omega)) (by dsimp only; omega)) (by dsimp only; omega)) (by dsimp only; omega)) (by dsimp only; omega), cell_away (cell_away (cell_away (cell_away (cell_away (cell_away (cell_away (z4) (by dsimp only; omega)) (by dsimp only; omega)) (by dsimp only; omega)) (by dsimp only; omega)) (by dsimp only; omega)) (by dsimp only; omega)) (by dsimp only; omega), cell_away (cell_away (cell_away (cell_away (cell_away (cell_away (cell_away (z5) (by dsimp only; omega)) (by dsimp only; omega)) (by dsimp only; omega)) (by dsimp only; omega)) (by dsimp only; omega)) (by dsimp only; omega)) (by dsimp only; omega), cell_away (cell_away (cell_away (cell_away (cell_away (cell_away (cell_away (z6) (by dsimp only; omega)) (by dsimp only; omega)) (by dsimp only; omega)) (by dsimp only; omega)) (by dsimp only; omega)) (by dsimp only; omega)) (by dsimp only; omega)⟩⟩) (fun hHeld => ?_)
  clear hK K
  try simp only [Act.put, List.setIfInBounds_toArray, List.set_cons_zero, List.set_cons_succ]
  refine wpAnyH_take (i := 10) (oi := { dst := some 5, op := Op.assign (Operand.tmp 38), type := 34, pos := "terms.go:289", after := #[{ on := 8, ground := Ground.data }, { on := 9, ground := Ground.chain }, { on := 0, ground := Ground.phase }, { on := 1, ground := Ground.phase }, { on := 2, ground := Ground.phase }, { on := 3, ground := Ground.phase }, { on := 4, ground := Ground.phase }, { on := 5, ground := Ground.phase }, { on := 6, ground := Ground.phase }, { on := 7, ground := Ground.phase }, { on := 8, ground := Ground.phase }, { on := 9, ground := Ground.phase }], guard := none }) (v := ?_) rfl (by kernel_rfl) (by kernel_rfl) (by kernel_rfl) (fun _ _ _ h => h) (Or.inl ⟨by rfl, ?_⟩) (by assumption) ?_
  rotate_left
  · intro w' hSw; (try dsimp only at hSw); go_simp; try with_reducible rfl
  try simp only [Act.put, List.setIfInBounds_toArray, List.set_cons_zero, List.set_cons_succ]
  refine wpAnyH_done (by kernel_rfl) ?_ _
  go_wp2_with fail
  refine bodyPost_ret (results_ct rfl _ _ (w.heap.size + 1 + 1) 27 #[.int .u8 rr.f0, .string rr.f1, .bool rr.f2.f0, .string rr.f2.f1, .slice A5 rr.f2.f2.length c5, .int .i64 rr.f3, .slice B5 rr.f4.length d5] (0, 0) _ rfl (set7l BR3) Try.underlying27 rfl (by kernel_rfl)) rfl ?_
  exact PairPost.store (by omega) (blk_lt BR2) hb2' hb3 hO3
set_option maxHeartbeats 4000000 in
set_option maxRecDepth 100000 in
theorem lambda_tr (x y : S27) (hfx : fitM x) (hfy : fitM y) (a b : Value) (w : World) (ha : TrM w a x) (hb : TrM w b y) : Calls Try.prog 44 #[a, b] w (PairPost w (lamF x y)) := by
  obtain ⟨A, c, B, d, rfl, hx⟩ := ha
  obtain ⟨A', c', B', d', rfl, hy⟩ := hb
  have hb0 := below_three (w := w) (.cells #[.int .u8 x.f0, .string x.f1, .bool x.f2.f0, .string x.f2.f1, .slice A x.f2.f2.length c, .int .i64 x.f3, .slice B x.f4.length d] 27) (.cells #[.int .u8 y.f0, .string y.f1, .bool y.f2.f0, .string y.f2.f1, .slice A' y.f2.f2.length c', .int .i64 y.f3, .slice B' y.f4.length d'] 27) (.cells #[.int .u8 0, .string ⟨#[]⟩, .bool false, .string ⟨#[]⟩, .slice none 0 0, .int .i64 0, .slice none 0 0] 27)
  have BX := blk_alloc (blk_mid (w := w) (.cells #[.int .u8 x.f0, .string x.f1, .bool x.f2.f0, .string x.f2.f1, .slice A x.f2.f2.length c, .int .i64 x.f3, .slice B x.f4.length d] 27) (.cells #[.int .u8 y.f0, .string y.f1, .bool y.f2.f0, .string y.f2.f1, .slice A' y.f2.f2.length c', .int .i64 y.f3, .slice B' y.f4.length d'] 27)) (.cells #[.int .u8 0, .string ⟨#[]⟩, .bool false, .string ⟨#[]⟩, .slice none 0 0, .int .i64 0, .slice none 0 0] 27)
  have BY := blk_alloc (blk_top (w := w) (.cells #[.int .u8 x.f0, .string x.f1, .bool x.f2.f0, .string x.f2.f1, .slice A x.f2.f2.length c, .int .i64 x.f3, .slice B x.f4.length d] 27) (.cells #[.int .u8 y.f0, .string y.f1, .bool y.f2.f0, .string y.f2.f1, .slice A' y.f2.f2.length c', .int .i64 y.f3, .slice B' y.f4.length d'] 27)) (.cells #[.int .u8 0, .string ⟨#[]⟩, .bool false, .string ⟨#[]⟩, .slice none 0 0, .int .i64 0, .slice none 0 0] 27)
  have BR : ((((w.alloc (.cells #[.int .u8 x.f0, .string x.f1, .bool x.f2.f0, .string x.f2.f1, .slice A x.f2.f2.length c, .int .i64 x.f3, .slice B x.f4.length d] 27)).alloc (.cells #[.int .u8 y.f0, .string y.f1, .bool y.f2.f0, .string y.f2.f1, .slice A' y.f2.f2.length c', .int .i64 y.f3, .slice B' y.f4.length d'] 27)).alloc (.cells #[.int .u8 0, .string ⟨#[]⟩, .bool false, .string ⟨#[]⟩, .slice none 0 0, .int .i64 0, .slice none 0 0] 27))).heap[w.heap.size + 1 + 1]? = some (.cells #[.int .u8 0, .string ⟨#[]⟩, .bool false, .string ⟨#[]⟩, .slice none 0 0, .int .i64 0, .slice none 0 0] 27 (0, 0)) := blk_third (w := w) (.cells #[.int .u8 x.f0, .string x.f1, .bool x.f2.f0, .string x.f2.f1, .slice A x.f2.f2.length c, .int .i64 x.f3, .slice B x.f4.length d] 27) (.cells #[.int .u8 y.f0, .string y.f1, .bool y.f2.f0, .string y.f2.f1, .slice A' y.f2.f2.length c', .int .i64 y.f3, .slice B' y.f4.length d'] 27) (.cells #[.int .u8 0, .string ⟨#[]⟩, .bool false, .string ⟨#[]⟩, .slice none 0 0, .int .i64 0, .slice none 0 0] 27)
  have hlt := blk_lt BR
  obtain ⟨x0, x1, x2, x3, x4, x5, x6⟩ := box7 BX; obtain ⟨y0, y1, y2, y3, y4, y5, y6⟩ := box7 BY
  have eb := fun W (hw : Below w.heap.size w W) => both_tr x y hfx hfy _ _ W ⟨A, c, B, d, rfl, hx.later hw⟩ ⟨A', c', B', d', rfl, hy.later hw⟩
  have hE : bothE x y = if chkM x = 0 then chkM y else chkM x := rfl
  by_cases hq : bothE x y ≠ 0
  · have hR : lamF x y = (zM, bothE x y) := by unfold lamF; rw [if_neg hq]
    rw [hR]
    have p1 : (bothE x y != 0) = true := bne_iff_ne.mpr hq
    clear hE hq hx hy hR
    generalize bothE x y = er at *
    go_enter Try.func44, Try.ntmps44
    go_wp2_with (go_at_call 109; (with_reducible refine (eb _ hb0).mono ?_); rintro e w1 ⟨rfl, hb1⟩; have hb1' := below_step hb0 hb1; have BX1 := blk_below BX hb1; have BY1 := blk_below BY hb1; have BR1 := blk_below BR hb1; obtain ⟨x0, x1, x2, x3, x4, x5, x6⟩ := box7 BX1; obtain ⟨y0, y1, y2, y3, y4, y5, y6⟩ := box7 BY1; obtain ⟨e0, e1, e2, e3, e4, e5, e6⟩ := box7 BR1; have g0 := blk_frozen BR1 0; have g1 := blk_frozen BR1 1; have g2 := blk_frozen BR1 2; have g3 := blk_frozen BR1 3; have g4 := blk_frozen BR1 4; have g5 := blk_frozen BR1 5; have g6 := blk_frozen BR1 6)
    refine bodyPost_ret (results_ct rfl _ _ (w.heap.size + 1 + 1) 27 #[.int .u8 0, .string ⟨#[]⟩, .bool false, .string ⟨#[]⟩, .slice none 0 0, .int .i64 0, .slice none 0 0] (0, 0) _ rfl (set7l BR1) Try.underlying27 rfl (by kernel_rfl)) rfl ?_
    exact ⟨_, rfl, OwM.zero _ _, (((((((hb1').setCell (by simp; omega) _).setCell (by simp; omega) _).setCell (by simp; omega) _).setCell (by simp; omega) _).setCell (by simp; omega) _).setCell (by simp; omega) _).setCell (by simp; omega) _⟩
  replace hq : bothE x y = 0 := Decidable.not_not.mp hq
  have hcx : chkM x = 0 := by unfold bothE at hq; split at hq <;> first | assumption | exact absurd hq (by assumption)
  have hcy : chkM y = 0 := by unfold bothE at hq; rw [if_pos hcx] at hq; exact hq
  rw [hq] at eb
  by_cases hk : x.f0 ≠ 1
  · have hR : lamF x y = (zM, 20) := by unfold lamF; rw [if_pos hq, if_neg hk]
    rw [hR]
    have p1 : (x.f0 != 1) = true := bne_iff_ne.mpr hk
    clear hE hq hx hy hR hk hcx hcy
    go_enter Try.func44, Try.ntmps44
    go_wp2_with (go_at_call 109; (with_reducible refine (eb _ hb0).mono ?_); rintro e w1 ⟨rfl, hb1⟩; have hb1' := below_step hb0 hb1; have BX1 := blk_below BX hb1; have BY1 := blk_below BY hb1; have BR1 := blk_below BR hb1; obtain ⟨x0, x1, x2, x3, x4, x5, x6⟩ := box7 BX1; obtain ⟨y0, y1, y2, y3, y4, y5, y6⟩ := box7 BY1; obtain ⟨e0, e1, e2, e3, e4, e5, e6⟩ := box7 BR1; have g0 := blk_frozen BR1 0; have g1 := blk_frozen BR1 1; have g2 := blk_frozen BR1 2; have g3 := blk_frozen BR1 3; have g4 := blk_frozen BR1 4; have g5 := blk_frozen BR1 5; have g6 := blk_frozen BR1 6)
    refine bodyPost_ret (results_ct rfl _ _ (w.heap.size + 1 + 1) 27 #[.int .u8 0, .string ⟨#[]⟩, .bool false, .string ⟨#[]⟩, .slice none 0 0, .int .i64 0, .slice none 0 0] (0, 0) _ rfl (set7l BR1) Try.underlying27 rfl (by kernel_rfl)) rfl ?_
    exact ⟨_, rfl, OwM.zero _ _, (((((((hb1').setCell (by simp; omega) _).setCell (by simp; omega) _).setCell (by simp; omega) _).setCell (by simp; omega) _).setCell (by simp; omega) _).setCell (by simp; omega) _).setCell (by simp; omega) _⟩
  replace hk : x.f0 = 1 := Decidable.not_not.mp hk
  have p1 : (x.f0 != 1) = false := bne_eq_false_iff_eq.mpr hk
  have hsz := (chkM_ok hcy).1
  have hR : lamF x y = okM (lamM x y) := by unfold lamF; rw [if_pos hq, if_pos hk]
  have hfl := lam_fit hfx hfy (by omega)
  rw [hR]
  have eb2 := fun W (hw : Below w.heap.size w W) => bind_calls _ y (Nat.le_refl _) x 0 (by omega) (by omega) A' c' B' d' A c B d W (fun k => k < W.heap.size) (fun k hk => hk) ⟨⟨Kd.C_F k24_heap (hy.later hw).1.1, hy.1.2⟩, Kd.C_F k27_heap (hy.later hw).2.1, hy.2.2⟩ (hx.later hw)
  have ew := fun A1 c1 B1 d1 W (h : RdM W (lamM x y) A1 c1 B1 d1) => whole_calls (lamM x y) hfl A1 c1 B1 d1 W h
  have hlm : lamM x y = ⟨5, x.f1, x.f2, 0, [bindM x 0 y]⟩ := rfl
  have hOk : okM (lamM x y) = ((okM (lamM x y)).1, chkM (lamM x y)) := Prod.ext rfl (okM_snd _)
  rw [hOk]
  unfold WholePost at ew
  have HX := Aside0.mk hx
  clear hE hq hy hx hR hk hcx hcy hfl hsz hfx hfy hOk
  generalize bindM x 0 y = z at *
  generalize chkM (lamM x y) = er at *
  generalize (okM (lamM x y)).1 = rr at *
  rw [hlm] at ew
  clear hlm
  go_enter Try.func44, Try.ntmps44
  go_wp2_with (go_at_call 109; (with_reducible refine (eb _ hb0).mono ?_); rintro e w1 ⟨rfl, hb1⟩; have hb1' := below_step hb0 hb1; have BX1 := blk_below BX hb1; have BY1 := blk_below BY hb1; have BR1 := blk_below BR hb1; obtain ⟨x0, x1, x2, x3, x4, x5, x6⟩ := box7 BX1; obtain ⟨y0, y1, y2, y3, y4, y5, y6⟩ := box7 BY1; obtain ⟨e0, e1, e2, e3, e4, e5, e6⟩ := box7 BR1; have g0 := blk_frozen BR1 0; have g1 := blk_frozen BR1 1; have g2 := blk_frozen BR1 2; have g3 := blk_frozen BR1 3; have g4 := blk_frozen BR1 4; have g5 := blk_frozen BR1 5; have g6 := blk_frozen BR1 6)
  have hbD := below_drew1 hb1'
  have hD := below_drew1 (Below.refl w1.heap.size w1)
  have hK0 : BxM w1.drew w.heap.size x A c B d ∧ BxM w1.drew (w.heap.size + 1) y A' c' B' d' := ⟨box7 (blk_below BX1 hD), box7 (blk_below BY1 hD)⟩
  refine wp_region_held_drew (S := fun W => BxM W w.heap.size x A c B d ∧ BxM W (w.heap.size + 1) y A' c' B' d') (by kernel_rfl) (by with_reducible exact hK0) (fun hHeld => ?_)
  refine wpAnyH_take (i := 0) (oi := { dst := some 18, op := Op.fieldAddr 27 (Operand.tmp 2) 1, type := 0, pos := "terms.go:275", after := #[], guard := none }) (v := ?_) rfl (by kernel_rfl) (by kernel_rfl) (by kernel_rfl) (fun _ _ _ h => h) (Or.inl ⟨by rfl, ?_⟩) (by assumption) ?_
  rotate_left
  · intro w' hSw; (try dsimp only at hSw); go_simp; try with_reducible rfl
  try simp only [Act.put, List.setIfInBounds_toArray, List.set_cons_zero, List.set_cons_succ]
  refine wpAnyH_take (i := 1) (oi := { dst := some 19, op := Op.load 9 (Operand.tmp 18), type := 9, pos := "terms.go:275", after := #[{ on := 0, ground := Ground.data }], guard := none }) (v := ?_) rfl (by kernel_rfl) (by kernel_rfl) (by kernel_rfl) (fun _ _ _ h => h) (Or.inl ⟨by rfl, ?_⟩) (by assumption) ?_
  rotate_left
  · intro w' hSw; (try dsimp only at hSw); go_simp; try with_reducible rfl
  try simp only [Act.put, List.setIfInBounds_toArray, List.set_cons_zero, List.set_cons_succ]
  refine wpAnyH_take (i := 2) (oi := { dst := some 20, op := Op.fieldAddr 27 (Operand.tmp 2) 2, type := 0, pos := "terms.go:275", after := #[], guard := none }) (v := ?_) rfl (by kernel_rfl) (by kernel_rfl) (by kernel_rfl) (fun _ _ _ h => h) (Or.inl ⟨by rfl, ?_⟩) (by assumption) ?_
  rotate_left
  · intro w' hSw; (try dsimp only at hSw); go_simp; try with_reducible rfl
  try simp only [Act.put, List.setIfInBounds_toArray, List.set_cons_zero, List.set_cons_succ]
  refine wpAnyH_take (i := 3) (oi := { dst := some 21, op := Op.load 24 (Operand.tmp 20), type := 24, pos := "terms.go:275", after := #[{ on := 2, ground := Ground.data }], guard := none }) (v := ?_) rfl (by kernel_rfl) (by kernel_rfl) (by kernel_rfl) (fun _ _ _ h => h) (Or.inl ⟨by rfl, ?_⟩) (by assumption) ?_
  rotate_left
  · intro w' hSw; (try dsimp only at hSw); go_simp; try with_reducible rfl
  try simp only [Act.put, List.setIfInBounds_toArray, List.set_cons_zero, List.set_cons_succ]
  refine wpAnyH_take (i := 4) (oi := { dst := some 22, op := Op.load 27 (Operand.tmp 3), type := 27, pos := "terms.go:275", after := #[], guard := none }) (v := ?_) rfl (by kernel_rfl) (by kernel_rfl) (by kernel_rfl) (fun _ _ _ h => h) (Or.inl ⟨by rfl, ?_⟩) (by assumption) ?_
  rotate_left
  · intro w' hSw; (try dsimp only at hSw); go_simp; try with_reducible rfl
  try simp only [Act.put, List.setIfInBounds_toArray, List.set_cons_zero, List.set_cons_succ]
  refine wpAnyH_take (i := 5) (oi := { dst := some 23, op := Op.load 27 (Operand.tmp 2), type := 27, pos := "terms.go:275", after := #[], guard := none }) (v := ?_) rfl (by kernel_rfl) (by kernel_rfl) (by kernel_rfl) (fun _ _ _ h => h) (Or.inl ⟨by rfl, ?_⟩) (by assumption) ?_
  rotate_left
  · intro w' hSw; (try dsimp only at hSw); go_simp; try with_reducible rfl
  try simp only [Act.put, List.setIfInBounds_toArray, List.set_cons_zero, List.set_cons_succ]
  refine wpAnyH_ready (rs := [6]) (by kernel_rfl) (by simp) ?_
  refine AllReadyH.cons (o := { dst := some 24, op := Op.call { callee := Callee.value (Operand.func 111), args := #[Operand.tmp 22, Operand.tmp 23, Operand.const (Value.int IntKind.i64 0)], argTypes := #[27, 27, 3] }, type := 27, pos := "terms.go:275", after := #[{ on := 4, ground := Ground.data }, { on := 5, ground := Ground.data }], guard := none }) rfl (fun K hK => ?_) AllReadyH.nil
  go_simp
  go_wp2_with (go_at_call 111; (with_reducible refine (eb2 _ hbD).mono ?_); rintro e w2 ⟨r2, rfl, hP, hb2⟩; obtain ⟨A4, c4, B4, d4, rfl, hz⟩ := hP; have hb2' := below_step hbD hb2; have BR2 := blk_below BR1 (below_step hD hb2); have BX2 := blk_below BX1 (below_step hD hb2); have BY2 := blk_below BY1 (below_step hD hb2))
  refine hK.out _ _ (by exact ⟨box7 BX2, box7 BY2⟩) (fun hHeld => ?_)
  clear hK K
  try simp only [Act.put, List.setIfInBounds_toArray, List.set_cons_zero, List.set_cons_succ]
  refine wpAnyH_ready (rs := [7]) (by kernel_rfl) (by simp) ?_
  refine AllReadyH.cons (o := { dst := some 25, op := Op.buildSlice 25 1 #[(0, Operand.tmp 24)], type := 25, pos := "terms.go:275", after := #[{ on := 6, ground := Ground.data }], guard := none }) rfl (fun K hK => ?_) AllReadyH.nil
  go_simp
  refine hK.out _ _ (by exact ⟨box7 (blk_alloc BX2 _), box7 (blk_alloc BY2 _)⟩) (fun hHeld => ?_)
  clear hK K
  try simp only [Act.put, List.setIfInBounds_toArray, List.set_cons_zero, List.set_cons_succ]
  refine wpAnyH_take (i := 8) (oi := { dst := some 26, op := Op.build 27 #[(0, Operand.const (Value.int IntKind.u8 5)), (1, Operand.tmp 19), (2, Operand.tmp 21), (4, Operand.tmp 25)], type := 27, pos := "terms.go:275", after := #[{ on := 1, ground := Ground.data }, { on := 3, ground := Ground.data }, { on := 7, ground := Ground.data }], guard := none }) (v := ?_) rfl (by kernel_rfl) (by kernel_rfl) (by kernel_rfl) (fun _ _ _ h => h) (Or.inl ⟨by rfl, ?_⟩) (by assumption) ?_
  rotate_left
  · intro w' hSw; (try dsimp only at hSw); go_simp; try with_reducible rfl
  try simp only [Act.put, List.setIfInBounds_toArray, List.set_cons_zero, List.set_cons_succ]
  refine wpAnyH_ready (rs := [9]) (by kernel_rfl) (by simp) ?_
  refine AllReadyH.cons (o := { dst := some 27, op := Op.call { callee := Callee.value (Operand.func 110), args := #[Operand.tmp 26], argTypes := #[27] }, type := 58, pos := "terms.go:275", after := #[{ on := 8, ground := Ground.data }, { on := 6, ground := Ground.chain }], guard := none }) rfl (fun K hK => ?_) AllReadyH.nil
  go_simp
  go_wp2_with (go_at_call 110; refine (ew A c (some ⟨w2.heap.size, 0, none⟩) 1 _ ⟨⟨((HX.out.later hb2').later (below_one _)).1.1, HX.out.1.2⟩, row_oneM (blk_new w2 _) (hz.rd.later (below_one _)), Nat.le_refl 1⟩).mono ?_; rintro e w3 ⟨r3, rfl, hO3, hb3⟩; obtain ⟨A5, c5, B5, d5, he5⟩ := hO3.cells; subst he5; have BR3 := blk_below (blk_below BR2 (below_one _)) hb3; have BX3 := blk_below (blk_below BX2 (below_one _)) hb3; have BY3 := blk_below (blk_below BY2 (below_one _)) hb3; obtain ⟨e0, e1, e2, e3, e4, e5, e6⟩ := box7 BR3; have g0 := blk_frozen BR3 0; have g1 := blk_frozen BR3 1; have g2 := blk_frozen BR3 2; have g3 := blk_frozen BR3 3; have g4 := blk_frozen BR3 4; have g5 := blk_frozen BR3 5; have g6 := blk_frozen BR3 6)
  refine hK.out _ _ (by exact ⟨box7 BX3, box7 BY3⟩) (fun hHeld => ?_)
  clear hK K
  try simp only [Act.put, List.setIfInBounds_toArray, List.set_cons_zero, List.set_cons_succ]
  refine wpAnyH_take (i := 10) (oi := { dst := some 28, op := Op.extract (Operand.tmp 27) 0, type := 27, pos := "terms.go:275", after := #[{ on := 9, ground := Ground.data }], guard := none }) (v := ?_) rfl (by kernel_rfl) (by kernel_rfl) (by kernel_rfl) (fun _ _ _ h => h) (Or.inl ⟨by rfl, ?_⟩) (by assumption) ?_
  rotate_left
  · intro w' hSw; (try dsimp only at hSw); go_simp; try with_reducible rfl
  try simp only [Act.put, List.setIfInBounds_toArray, List.set_cons_zero, List.set_cons_succ]
  refine wpAnyH_take (i := 11) (oi := { dst := some 29, op := Op.extract (Operand.tmp 27) 1, type := 34, pos := "terms.go:275", after := #[{ on := 9, ground := Ground.data }], guard := none }) (v := ?_) rfl (by kernel_rfl) (by kernel_rfl) (by kernel_rfl) (fun _ _ _ h => h) (Or.inl ⟨by rfl, ?_⟩) (by assumption) ?_
  rotate_left
  · intro w' hSw; (try dsimp only at hSw); go_simp; try with_reducible rfl
  try simp only [Act.put, List.setIfInBounds_toArray, List.set_cons_zero, List.set_cons_succ]
  refine wpAnyH_ready (rs := [12]) (by kernel_rfl) (by simp) ?_
  refine AllReadyH.cons (o := { dst := none, op := Op.store 27 (Operand.tmp 4) (Operand.tmp 28), type := 0, pos := "terms.go:275", after := #[{ on := 10, ground := Ground.data }, { on := 9, ground := Ground.chain }, { on := 0, ground := Ground.phase }, { on := 1, ground := Ground.phase }, { on := 2, ground := Ground.phase }, { on := 3, ground := Ground.phase }, { on := 4, ground := Ground.phase }, { on := 5, ground := Ground.phase }, { on := 6, ground := Ground.phase }, { on := 7, ground := Ground.phase }, { on := 8, ground := Ground.phase }, { on := 9, ground := Ground.phase }, { on := 10, ground := Ground.phase }, { on := 11, ground := Ground.phase }], guard := none }) rfl (fun K hK => ?_) AllReadyH.nil
  go_simp
  refine hK.out _ _ (by exact ⟨box7 (blk_far (blk_far (blk_far (blk_far (blk_far (blk_far (blk_far (BX3) (by dsimp only; omega) _) (by dsimp only; omega) _) (by dsimp only; omega) _) (by dsimp only; omega) _) (by dsimp only; omega) _) (by dsimp only; omega) _) (by dsimp only; omega) _), box7 (blk_far (blk_far (blk_far (blk_far (blk_far (blk_far (blk_far (BY3) (by dsimp only; omega) _) (by dsimp only; omega) _) (by dsimp only; omega) _) (by dsimp only; omega) _) (by dsimp only; omega) _) (by dsimp only; omega) _) (by dsimp only; omega) _)⟩) (fun hHeld => ?_)
  clear hK K
  try simp only [Act.put, List.setIfInBounds_toArray, List.set_cons_zero, List.set_cons_succ]
  refine wpAnyH_take (i := 13) (oi := { dst := some 5, op := Op.assign (Operand.tmp 29), type := 34, pos := "terms.go:275", after := #[{ on := 11, ground := Ground.data }, { on := 12, ground := Ground.chain }, { on := 0, ground := Ground.phase }, { on := 1, ground := Ground.phase }, { on := 2, ground := Ground.phase }, { on := 3, ground := Ground.phase }, { on := 4, ground := Ground.phase }, { on := 5, ground := Ground.phase }, { on := 6, ground := Ground.phase }, { on := 7, ground := Ground.phase }, { on := 8, ground := Ground.phase }, { on := 9, ground := Ground.phase }, { on := 10, ground := Ground.phase }, { on := 11, ground := Ground.phase }, { on := 12, ground := Ground.phase }], guard := none }) (v := ?_) rfl (by kernel_rfl) (by kernel_rfl) (by kernel_rfl) (fun _ _ _ h => h) (Or.inl ⟨by rfl, ?_⟩) (by assumption) ?_
  rotate_left
  · intro w' hSw; (try dsimp only at hSw); go_simp; try with_reducible rfl
  try simp only [Act.put, List.setIfInBounds_toArray, List.set_cons_zero, List.set_cons_succ]
  refine wpAnyH_done (by kernel_rfl) ?_ _
  go_wp2_with fail
  refine bodyPost_ret (results_ct rfl _ _ (w.heap.size + 1 + 1) 27 #[.int .u8 rr.f0, .string rr.f1, .bool rr.f2.f0, .string rr.f2.f1, .slice A5 rr.f2.f2.length c5, .int .i64 rr.f3, .slice B5 rr.f4.length d5] (0, 0) _ rfl (set7l BR3) Try.underlying27 rfl (by kernel_rfl)) rfl ?_
  exact PairPost.store (by omega) (by have := blk_lt BR2; simp; omega) (below_step hb2' (below_one _)) hb3 hO3
set_option maxHeartbeats 4000000 in
set_option maxRecDepth 100000 in
theorem open_tr (x y : S27) (hfx : fitM x) (hfy : fitM y) (a b : Value) (w : World) (ha : TrM w a x) (hb : TrM w b y) : Calls Try.prog 45 #[a, b] w (PairPost w (opnF x y)) := by
  obtain ⟨A, c, B, d, rfl, hx⟩ := ha
  obtain ⟨A', c', B', d', rfl, hy⟩ := hb
  have hb0 := below_three (w := w) (.cells #[.int .u8 x.f0, .string x.f1, .bool x.f2.f0, .string x.f2.f1, .slice A x.f2.f2.length c, .int .i64 x.f3, .slice B x.f4.length d] 27) (.cells #[.int .u8 y.f0, .string y.f1, .bool y.f2.f0, .string y.f2.f1, .slice A' y.f2.f2.length c', .int .i64 y.f3, .slice B' y.f4.length d'] 27) (.cells #[.int .u8 0, .string ⟨#[]⟩, .bool false, .string ⟨#[]⟩, .slice none 0 0, .int .i64 0, .slice none 0 0] 27)
  have BX := blk_alloc (blk_mid (w := w) (.cells #[.int .u8 x.f0, .string x.f1, .bool x.f2.f0, .string x.f2.f1, .slice A x.f2.f2.length c, .int .i64 x.f3, .slice B x.f4.length d] 27) (.cells #[.int .u8 y.f0, .string y.f1, .bool y.f2.f0, .string y.f2.f1, .slice A' y.f2.f2.length c', .int .i64 y.f3, .slice B' y.f4.length d'] 27)) (.cells #[.int .u8 0, .string ⟨#[]⟩, .bool false, .string ⟨#[]⟩, .slice none 0 0, .int .i64 0, .slice none 0 0] 27)
  have BY := blk_alloc (blk_top (w := w) (.cells #[.int .u8 x.f0, .string x.f1, .bool x.f2.f0, .string x.f2.f1, .slice A x.f2.f2.length c, .int .i64 x.f3, .slice B x.f4.length d] 27) (.cells #[.int .u8 y.f0, .string y.f1, .bool y.f2.f0, .string y.f2.f1, .slice A' y.f2.f2.length c', .int .i64 y.f3, .slice B' y.f4.length d'] 27)) (.cells #[.int .u8 0, .string ⟨#[]⟩, .bool false, .string ⟨#[]⟩, .slice none 0 0, .int .i64 0, .slice none 0 0] 27)
  have BR : ((((w.alloc (.cells #[.int .u8 x.f0, .string x.f1, .bool x.f2.f0, .string x.f2.f1, .slice A x.f2.f2.length c, .int .i64 x.f3, .slice B x.f4.length d] 27)).alloc (.cells #[.int .u8 y.f0, .string y.f1, .bool y.f2.f0, .string y.f2.f1, .slice A' y.f2.f2.length c', .int .i64 y.f3, .slice B' y.f4.length d'] 27)).alloc (.cells #[.int .u8 0, .string ⟨#[]⟩, .bool false, .string ⟨#[]⟩, .slice none 0 0, .int .i64 0, .slice none 0 0] 27))).heap[w.heap.size + 1 + 1]? = some (.cells #[.int .u8 0, .string ⟨#[]⟩, .bool false, .string ⟨#[]⟩, .slice none 0 0, .int .i64 0, .slice none 0 0] 27 (0, 0)) := blk_third (w := w) (.cells #[.int .u8 x.f0, .string x.f1, .bool x.f2.f0, .string x.f2.f1, .slice A x.f2.f2.length c, .int .i64 x.f3, .slice B x.f4.length d] 27) (.cells #[.int .u8 y.f0, .string y.f1, .bool y.f2.f0, .string y.f2.f1, .slice A' y.f2.f2.length c', .int .i64 y.f3, .slice B' y.f4.length d'] 27) (.cells #[.int .u8 0, .string ⟨#[]⟩, .bool false, .string ⟨#[]⟩, .slice none 0 0, .int .i64 0, .slice none 0 0] 27)
  have hlt := blk_lt BR
  obtain ⟨x0, x1, x2, x3, x4, x5, x6⟩ := box7 BX; obtain ⟨y0, y1, y2, y3, y4, y5, y6⟩ := box7 BY
  have eb := fun W (hw : Below w.heap.size w W) => both_tr x y hfx hfy _ _ W ⟨A, c, B, d, rfl, hx.later hw⟩ ⟨A', c', B', d', rfl, hy.later hw⟩
  have hE : bothE x y = if chkM x = 0 then chkM y else chkM x := rfl
  by_cases hq : bothE x y ≠ 0
  · have hR : opnF x y = (zM, bothE x y) := by unfold opnF; rw [if_neg hq]
    rw [hR]
    have p1 : (bothE x y != 0) = true := bne_iff_ne.mpr hq
    clear hE hq hx hy hR
    generalize bothE x y = er at *
    go_enter Try.func45, Try.ntmps45
    go_wp2_with (go_at_call 109; (with_reducible refine (eb _ hb0).mono ?_); rintro e w1 ⟨rfl, hb1⟩; have hb1' := below_step hb0 hb1; have BX1 := blk_below BX hb1; have BY1 := blk_below BY hb1; have BR1 := blk_below BR hb1; obtain ⟨x0, x1, x2, x3, x4, x5, x6⟩ := box7 BX1; obtain ⟨y0, y1, y2, y3, y4, y5, y6⟩ := box7 BY1; obtain ⟨e0, e1, e2, e3, e4, e5, e6⟩ := box7 BR1; have g0 := blk_frozen BR1 0; have g1 := blk_frozen BR1 1; have g2 := blk_frozen BR1 2; have g3 := blk_frozen BR1 3; have g4 := blk_frozen BR1 4; have g5 := blk_frozen BR1 5; have g6 := blk_frozen BR1 6)
    refine bodyPost_ret (results_ct rfl _ _ (w.heap.size + 1 + 1) 27 #[.int .u8 0, .string ⟨#[]⟩, .bool false, .string ⟨#[]⟩, .slice none 0 0, .int .i64 0, .slice none 0 0] (0, 0) _ rfl (set7l BR1) Try.underlying27 rfl (by kernel_rfl)) rfl ?_
    exact ⟨_, rfl, OwM.zero _ _, (((((((hb1').setCell (by simp; omega) _).setCell (by simp; omega) _).setCell (by simp; omega) _).setCell (by simp; omega) _).setCell (by simp; omega) _).setCell (by simp; omega) _).setCell (by simp; omega) _⟩
  replace hq : bothE x y = 0 := Decidable.not_not.mp hq
  have hcx : chkM x = 0 := by unfold bothE at hq; split at hq <;> first | assumption | exact absurd hq (by assumption)
  have hcy : chkM y = 0 := by unfold bothE at hq; rw [if_pos hcx] at hq; exact hq
  rw [hq] at eb
  by_cases hk : x.f0 ≠ 5
  · have hR : opnF x y = (zM, 50) := by unfold opnF; rw [if_pos hq, if_neg hk]
    rw [hR]
    have p1 : (x.f0 != 5) = true := bne_iff_ne.mpr hk
    clear hE hq hx hy hR hk hcx hcy
    go_enter Try.func45, Try.ntmps45
    go_wp2_with (go_at_call 109; (with_reducible refine (eb _ hb0).mono ?_); rintro e w1 ⟨rfl, hb1⟩; have hb1' := below_step hb0 hb1; have BX1 := blk_below BX hb1; have BY1 := blk_below BY hb1; have BR1 := blk_below BR hb1; obtain ⟨x0, x1, x2, x3, x4, x5, x6⟩ := box7 BX1; obtain ⟨y0, y1, y2, y3, y4, y5, y6⟩ := box7 BY1; obtain ⟨e0, e1, e2, e3, e4, e5, e6⟩ := box7 BR1; have g0 := blk_frozen BR1 0; have g1 := blk_frozen BR1 1; have g2 := blk_frozen BR1 2; have g3 := blk_frozen BR1 3; have g4 := blk_frozen BR1 4; have g5 := blk_frozen BR1 5; have g6 := blk_frozen BR1 6)
    refine bodyPost_ret (results_ct rfl _ _ (w.heap.size + 1 + 1) 27 #[.int .u8 0, .string ⟨#[]⟩, .bool false, .string ⟨#[]⟩, .slice none 0 0, .int .i64 0, .slice none 0 0] (0, 0) _ rfl (set7l BR1) Try.underlying27 rfl (by kernel_rfl)) rfl ?_
    exact ⟨_, rfl, OwM.zero _ _, (((((((hb1').setCell (by simp; omega) _).setCell (by simp; omega) _).setCell (by simp; omega) _).setCell (by simp; omega) _).setCell (by simp; omega) _).setCell (by simp; omega) _).setCell (by simp; omega) _⟩
  replace hk : x.f0 = 5 := Decidable.not_not.mp hk
  have p1 : (x.f0 != 5) = false := bne_eq_false_iff_eq.mpr hk
  by_cases hl : y.f0 ≠ 1
  · have hR : opnF x y = (zM, 20) := by unfold opnF; rw [if_pos hq, if_pos hk, if_neg (fun h => hl h.1)]
    rw [hR]
    have p2 : (y.f0 != 1) = true := bne_iff_ne.mpr hl
    clear hE hq hx hy hR hk hcx hcy hl
    go_enter Try.func45, Try.ntmps45
    go_wp2_with (go_at_call 109; (with_reducible refine (eb _ hb0).mono ?_); rintro e w1 ⟨rfl, hb1⟩; have hb1' := below_step hb0 hb1; have BX1 := blk_below BX hb1; have BY1 := blk_below BY hb1; have BR1 := blk_below BR hb1; obtain ⟨x0, x1, x2, x3, x4, x5, x6⟩ := box7 BX1; obtain ⟨y0, y1, y2, y3, y4, y5, y6⟩ := box7 BY1; obtain ⟨e0, e1, e2, e3, e4, e5, e6⟩ := box7 BR1; have g0 := blk_frozen BR1 0; have g1 := blk_frozen BR1 1; have g2 := blk_frozen BR1 2; have g3 := blk_frozen BR1 3; have g4 := blk_frozen BR1 4; have g5 := blk_frozen BR1 5; have g6 := blk_frozen BR1 6)
    refine bodyPost_ret (results_ct rfl _ _ (w.heap.size + 1 + 1) 27 #[.int .u8 0, .string ⟨#[]⟩, .bool false, .string ⟨#[]⟩, .slice none 0 0, .int .i64 0, .slice none 0 0] (0, 0) _ rfl (set7l BR1) Try.underlying27 rfl (by kernel_rfl)) rfl ?_
    exact ⟨_, rfl, OwM.zero _ _, (((((((hb1').setCell (by simp; omega) _).setCell (by simp; omega) _).setCell (by simp; omega) _).setCell (by simp; omega) _).setCell (by simp; omega) _).setCell (by simp; omega) _).setCell (by simp; omega) _⟩
  replace hl : y.f0 = 1 := Decidable.not_not.mp hl
  have p2 : (y.f0 != 1) = false := bne_eq_false_iff_eq.mpr hl
  by_cases ht : cmpT y.f2 x.f2 ≠ 0
  · have hR : opnF x y = (zM, 20) := by unfold opnF; rw [if_pos hq, if_pos hk, if_neg (fun h => ht h.2)]
    rw [hR]
    have es := fun W (hw : Below w.heap.size w W) => same_tr y.f2 x.f2 _ _ W (hy.later hw).ty (hx.later hw).ty
    rw [beq_eq_false_iff_ne.mpr ht] at es
    clear hE hq hx hy hR hk hcx hcy hl ht
    go_enter Try.func45, Try.ntmps45
    go_wp2_with (first
      | (go_at_call 52; (with_reducible refine (es _ hb1').mono ?_); rintro e w4 ⟨rfl, hb4⟩; have hb4' := below_step hb1' hb4; have BR4 := blk_below BR1 hb4; obtain ⟨e0, e1, e2, e3, e4, e5, e6⟩ := box7 BR4; have g0 := blk_frozen BR4 0; have g1 := blk_frozen BR4 1; have g2 := blk_frozen BR4 2; have g3 := blk_frozen BR4 3; have g4 := blk_frozen BR4 4; have g5 := blk_frozen BR4 5; have g6 := blk_frozen BR4 6)
      | (go_at_call 109; (with_reducible refine (eb _ hb0).mono ?_); rintro e w1 ⟨rfl, hb1⟩; have hb1' := below_step hb0 hb1; have BX1 := blk_below BX hb1; have BY1 := blk_below BY hb1; have BR1 := blk_below BR hb1; obtain ⟨x0, x1, x2, x3, x4, x5, x6⟩ := box7 BX1; obtain ⟨y0, y1, y2, y3, y4, y5, y6⟩ := box7 BY1; obtain ⟨e0, e1, e2, e3, e4, e5, e6⟩ := box7 BR1; have g0 := blk_frozen BR1 0; have g1 := blk_frozen BR1 1; have g2 := blk_frozen BR1 2; have g3 := blk_frozen BR1 3; have g4 := blk_frozen BR1 4; have g5 := blk_frozen BR1 5; have g6 := blk_frozen BR1 6))
    refine bodyPost_ret (results_ct rfl _ _ (w.heap.size + 1 + 1) 27 #[.int .u8 0, .string ⟨#[]⟩, .bool false, .string ⟨#[]⟩, .slice none 0 0, .int .i64 0, .slice none 0 0] (0, 0) _ rfl (set7l BR4) Try.underlying27 rfl (by kernel_rfl)) rfl ?_
    exact ⟨_, rfl, OwM.zero _ _, (((((((hb4').setCell (by simp; omega) _).setCell (by simp; omega) _).setCell (by simp; omega) _).setCell (by simp; omega) _).setCell (by simp; omega) _).setCell (by simp; omega) _).setCell (by simp; omega) _⟩
  replace ht : cmpT y.f2 x.f2 = 0 := Decidable.not_not.mp ht
  have hR : opnF x y = okM (plugM y 0 (bodyM x)) := by unfold opnF; rw [if_pos hq, if_pos hk, if_pos ⟨hl, ht⟩]
  rw [hR]
  rcases formM_inv (chkM_ok hcx).2.2 with ⟨h0, _⟩ | ⟨h0, _⟩ | ⟨h0, _⟩ | ⟨_, hn, hc, h3', z, b', hs, hb, hu, hcu⟩
  · omega
  · omega
  · omega
  rw [show bodyM x = z by unfold bodyM; rw [hs]; rfl]
  clear hE hq hR hb0 BX BY BR hlt eb p1 p2 hn hc hb hu hcu
  obtain ⟨k, n, ty, i, s⟩ := x
  dsimp only at hk h3' hs ht hx hfx hcx ⊢
  subst hk h3' hs
  exact open_abs n ty z y hfx hfy hcx hcy hl ht A c B d A' c' B' d' w hx hy
end Go.Proofs.Ytecplbgdalchdaa.Q
/- Proved here: the laws' alive returns true. Conditions: none. -/
namespace Go.Proofs.Ytecplbgdalchdaa.Q
open Go.RowKit Go.Shelf Go.Proofs.YtecplbgdalchdaaW.PrintWords Go.Proofs.YtecplbgdalchdaaW.PrintMore
set_option linter.unusedVariables false
set_option linter.unusedSimpArgs false
attribute [local go_sem] Oper.semAt_some


/-- A boxed term, and what it reads. -/
abbrev HdM (W : World) (g : Nat) (x : S27) (A : Option Addr) (c : Nat) (B : Option Addr) (d : Nat) : Prop := W.heap[g]? = some (.cells #[.int .u8 x.f0, .string x.f1, .bool x.f2.f0, .string x.f2.f1, .slice A x.f2.f2.length c, .int .i64 x.f3, .slice B x.f4.length d] 27 (0, 0)) ∧ RdM W x A c B d
theorem HdM.later {W W' : World} {g : Nat} {x : S27} {A B : Option Addr} {c d : Nat} (h : HdM W g x A c B d) (hb : Below W.heap.size W W') : HdM W' g x A c B d := ⟨blk_below h.1 hb, h.2.later hb⟩
theorem HdM.new {W : World} {x : S27} {A B : Option Addr} {c d : Nat} (h : RdM W x A c B d) : HdM (W.alloc (.cells #[.int .u8 x.f0, .string x.f1, .bool x.f2.f0, .string x.f2.f1, .slice A x.f2.f2.length c, .int .i64 x.f3, .slice B x.f4.length d] 27)) W.heap.size x A c B d := ⟨blk_new _ _, h.later (below_one _)⟩
theorem HdM.box {W : World} {g : Nat} {x : S27} {A B : Option Addr} {c d : Nat} (h : HdM W g x A c B d) : BxM W g x A c B d := box7 h.1
def nX : ByteArray := ⟨#[120]⟩
def nY : ByteArray := ⟨#[121]⟩
def nZ : ByteArray := ⟨#[122]⟩
def tBl : S24 := ⟨false, boolN, []⟩
def wantM : S27 := ⟨5, nX, tBl, 0, [⟨3, ⟨#[]⟩, ⟨false, ⟨#[]⟩, []⟩, 0, []⟩]⟩
theorem fitBl : fit tBl := fitl _ _ (by unfold okS; decide)
theorem OwM.rd {w : World} {ok : Nat → Prop} {a : Value} {x : S27} (h : OwM w ok a x) : ∃ A c B d, a = .agg #[.int .u8 x.f0, .string x.f1, .bool x.f2.f0, .string x.f2.f1, .slice A x.f2.f2.length c, .int .i64 x.f3, .slice B x.f4.length d] ∧ RdM w x A c B d := h.tr
abbrev AlM (w wk : World) (ta tb tc vz : S27) (u : S24) (ga gm ge gb gc gz gu : Nat) (Aa Ab Ac Az Ba Bb Bc Bz Au : Option Addr) (ca cb cc cz da db dc dz cu : Nat) (W : World) : Prop :=
  (BxM W ga ta Aa ca Ba da ∧ BxM W gb tb Ab cb Bb db ∧ BxM W gc tc Ac cc Bc dc ∧ BxM W gz vz Az cz Bz dz) ∧ (W.cell? ⟨gm, 0, none⟩ = some (.int .u8 5) ∧ W.cell? ⟨gm, 1, none⟩ = some (.string ⟨#[120]⟩) ∧ W.cell? ⟨gm, 2, none⟩ = some (.bool false) ∧ W.cell? ⟨gm, 3, none⟩ = some (.string boolN) ∧ W.cell? ⟨gm, 4, none⟩ = some (.slice none 0 0) ∧ W.cell? ⟨gm, 5, none⟩ = some (.int .i64 0) ∧ W.cell? ⟨gm, 6, none⟩ = some (.slice (some ⟨ge, 0, none⟩) 1 1)) ∧ (W.cell? ⟨gu, 0, none⟩ = some (.bool u.f0) ∧ W.cell? ⟨gu, 1, none⟩ = some (.string u.f1) ∧ W.cell? ⟨gu, 2, none⟩ = some (.slice Au u.f2.length cu)) ∧ Below wk.heap.size wk W ∧ Below w.heap.size w W
theorem AlM.step {w wk : World} {ta tb tc vz : S27} {u : S24} {ga gm ge gb gc gz gu : Nat} {Aa Ab Ac Az Ba Bb Bc Bz Au : Option Addr} {ca cb cc cz da db dc dz cu : Nat} {W W' : World} (h : AlM w wk ta tb tc vz u ga gm ge gb gc gz gu Aa Ab Ac Az Ba Bb Bc Bz Au ca cb cc cz da db dc dz cu W) (hb : Below W.heap.size W W') : AlM w wk ta tb tc vz u ga gm ge gb gc gz gu Aa Ab Ac Az Ba Bb Bc Bz Au ca cb cc cz da db dc dz cu W' := by
  obtain ⟨⟨h1, h2, h3, h4⟩, ⟨m0, m1, m2, m3, m4, m5, m6⟩, ⟨u0, u1, u2⟩, hk, hw⟩ := h
  exact ⟨⟨h1.step hb, h2.step hb, h3.step hb, h4.step hb⟩, ⟨pw_cell_below hb m0, pw_cell_below hb m1, pw_cell_below hb m2, pw_cell_below hb m3, pw_cell_below hb m4, pw_cell_below hb m5, pw_cell_below hb m6⟩, ⟨pw_cell_below hb u0, pw_cell_below hb u1, pw_cell_below hb u2⟩, below_step hk hb, below_step hw hb⟩
set_option maxHeartbeats 8000000 in
set_option maxRecDepth 100000 in
theorem aliveM_of (w : World) (vx vy vz ta tb tc : S27) (u : S24) (hx : leafF 1 nX tBl = (vx, 0)) (hy : leafF 1 nY tBl = (vy, 0)) (hz : leafF 1 nZ tBl = (vz, 0)) (ha : lamF vx vx = (ta, 0)) (hb : lamF vy vy = (tb, 0)) (hu : tyoM ta = (u, 0)) (hcu : chkM ta = 0) (hc : opnF ta vz = (tc, 0))
    (fx : fitM vx) (fy : fitM vy) (fz : fitM vz) (fa : fitM ta) (he : exM ta wantM = true) (hs : (cmpM ta tb == 0) = true) (ht : (cmpT u ⟨false, funN, [tBl, tBl]⟩ == 0) = true) (hs2 : (cmpM tc vz == 0) = true) :
    Calls Try.prog 15 #[] w fun e w' => e = .returned (.bool true) ∧ Below w.heap.size w w' := by
  obtain ⟨ke, hke⟩ := (rexact_ev ta fa wantM).at
  rw [he] at hke
  have qx : ∀ W, Calls Try.prog 47 #[.string ⟨#[120]⟩, .agg #[.bool false, .string boolN, .slice none 0 0]] W (PairPost W (vx, 0)) := fun W => hx ▸ var_tcalls nX tBl (by unfold okS nX; decide) fitBl _ W (Tr.leaf false boolN W)
  have qy : ∀ W, Calls Try.prog 47 #[.string ⟨#[121]⟩, .agg #[.bool false, .string boolN, .slice none 0 0]] W (PairPost W (vy, 0)) := fun W => hy ▸ var_tcalls nY tBl (by unfold okS nY; decide) fitBl _ W (Tr.leaf false boolN W)
  have qz : ∀ W, Calls Try.prog 47 #[.string ⟨#[122]⟩, .agg #[.bool false, .string boolN, .slice none 0 0]] W (PairPost W (vz, 0)) := fun W => hz ▸ var_tcalls nZ tBl (by unfold okS nZ; decide) fitBl _ W (Tr.leaf false boolN W)
  have qa : ∀ A c B d W, RdM W vx A c B d → Calls Try.prog 44 #[.agg #[.int .u8 vx.f0, .string vx.f1, .bool vx.f2.f0, .string vx.f2.f1, .slice A vx.f2.f2.length c, .int .i64 vx.f3, .slice B vx.f4.length d], .agg #[.int .u8 vx.f0, .string vx.f1, .bool vx.f2.f0, .string vx.f2.f1, .slice A vx.f2.f2.length c, .int .i64 vx.f3, .slice B vx.f4.length d]] W (PairPost W (ta, 0)) := fun A c B d W h => ha ▸ lambda_tr vx vx fx fx _ _ W ⟨A, c, B, d, rfl, h⟩ ⟨A, c, B, d, rfl, h⟩
  have qb : ∀ A c B d W, RdM W vy A c B d → Calls Try.prog 44 #[.agg #[.int .u8 vy.f0, .string vy.f1, .bool vy.f2.f0, .string vy.f2.f1, .slice A vy.f2.f2.length c, .int .i64 vy.f3, .slice B vy.f4.length d], .agg #[.int .u8 vy.f0, .string vy.f1, .bool vy.f2.f0, .string vy.f2.f1, .slice A vy.f2.f2.length c, .int .i64 vy.f3, .slice B vy.f4.length d]] W (PairPost W (tb, 0)) := fun A c B d W h => hb ▸ lambda_tr vy vy fy fy _ _ W ⟨A, c, B, d, rfl, h⟩ ⟨A, c, B, d, rfl, h⟩
  have qu : ∀ A c B d W, RdM W ta A c B d → Calls Try.prog 20 #[.agg #[.int .u8 ta.f0, .string ta.f1, .bool ta.f2.f0, .string ta.f2.f1, .slice A ta.f2.f2.length c, .int .i64 ta.f3, .slice B ta.f4.length d]] W fun e w' => ∃ r, e = .returned (.tuple #[r, .int .i64 0]) ∧ Tr w' r u ∧ Below W.heap.size W w' := by
    intro A c B d W h
    have h2 := tyoM_tr ta fa _ W ⟨A, c, B, d, rfl, h⟩
    rw [hu, hcu] at h2
    exact h2
  have qc : ∀ A c B d A' c' B' d' W, RdM W ta A c B d → RdM W vz A' c' B' d' → Calls Try.prog 45 #[.agg #[.int .u8 ta.f0, .string ta.f1, .bool ta.f2.f0, .string ta.f2.f1, .slice A ta.f2.f2.length c, .int .i64 ta.f3, .slice B ta.f4.length d], .agg #[.int .u8 vz.f0, .string vz.f1, .bool vz.f2.f0, .string vz.f2.f1, .slice A' vz.f2.f2.length c', .int .i64 vz.f3, .slice B' vz.f4.length d']] W (PairPost W (tc, 0)) := fun A c B d A' c' B' d' W h h' => hc ▸ open_tr ta vz fa fz _ _ W ⟨A, c, B, d, rfl, h⟩ ⟨A', c', B', d', rfl, h'⟩
  have hbw : Below w.heap.size w w := Below.refl _ w
  clear hx hy hz ha hb hu hcu hc fx fy fz fa he
  go_enter Try.func15, Try.ntmps15
  go_wp2_with (first
    | (go_at_call 47; (with_reducible refine (qx _).mono ?_); rintro e Wvx ⟨r, rfl, hO, hc⟩; obtain ⟨Ax, cx, Bx, dx, rfl, hR⟩ := hO.rd; dsimp only at hR ⊢; (try have HX := HX.later hc); (try have HY := HY.later hc); (try have HZ := HZ.later hc); (try have HA := HA.later hc); (try have HB := HB.later hc); (try (have BU := blk_below BU hc; have HU := Tr.later HU hc)); (try have HC := HC.later hc); have hbw := below_step hbw hc; have hc := below_one (w := Wvx) (.cells #[.int .u8 vx.f0, .string vx.f1, .bool vx.f2.f0, .string vx.f2.f1, .slice Ax vx.f2.f2.length cx, .int .i64 vx.f3, .slice Bx vx.f4.length dx] 27); (try have HX := HX.later hc); (try have HY := HY.later hc); (try have HZ := HZ.later hc); (try have HA := HA.later hc); (try have HB := HB.later hc); (try (have BU := blk_below BU hc; have HU := Tr.later HU hc)); (try have HC := HC.later hc); have hbw := below_step hbw hc; have HX := HdM.new (x := vx) hR; (try obtain ⟨x0, x1, x2, x3, x4, x5, x6⟩ := HX.box); (try obtain ⟨y0, y1, y2, y3, y4, y5, y6⟩ := HY.box); (try obtain ⟨z0, z1, z2, z3, z4, z5, z6⟩ := HZ.box); (try obtain ⟨a0, a1, a2, a3, a4, a5, a6⟩ := HA.box))
    | (go_at_call 47; (with_reducible refine (qy _).mono ?_); rintro e Wvy ⟨r, rfl, hO, hc⟩; obtain ⟨Ay, cy, By, dy, rfl, hR⟩ := hO.rd; dsimp only at hR ⊢; (try have HX := HX.later hc); (try have HY := HY.later hc); (try have HZ := HZ.later hc); (try have HA := HA.later hc); (try have HB := HB.later hc); (try (have BU := blk_below BU hc; have HU := Tr.later HU hc)); (try have HC := HC.later hc); have hbw := below_step hbw hc; have hc := below_one (w := Wvy) (.cells #[.int .u8 vy.f0, .string vy.f1, .bool vy.f2.f0, .string vy.f2.f1, .slice Ay vy.f2.f2.length cy, .int .i64 vy.f3, .slice By vy.f4.length dy] 27); (try have HX := HX.later hc); (try have HY := HY.later hc); (try have HZ := HZ.later hc); (try have HA := HA.later hc); (try have HB := HB.later hc); (try (have BU := blk_below BU hc; have HU := Tr.later HU hc)); (try have HC := HC.later hc); have hbw := below_step hbw hc; have HY := HdM.new (x := vy) hR; (try obtain ⟨x0, x1, x2, x3, x4, x5, x6⟩ := HX.box); (try obtain ⟨y0, y1, y2, y3, y4, y5, y6⟩ := HY.box); (try obtain ⟨z0, z1, z2, z3, z4, z5, z6⟩ := HZ.box); (try obtain ⟨a0, a1, a2, a3, a4, a5, a6⟩ := HA.box))
    | (go_at_call 47; (with_reducible refine (qz _).mono ?_); rintro e Wvz ⟨r, rfl, hO, hc⟩; obtain ⟨Az, cz, Bz, dz, rfl, hR⟩ := hO.rd; dsimp only at hR ⊢; (try have HX := HX.later hc); (try have HY := HY.later hc); (try have HZ := HZ.later hc); (try have HA := HA.later hc); (try have HB := HB.later hc); (try (have BU := blk_below BU hc; have HU := Tr.later HU hc)); (try have HC := HC.later hc); have hbw := below_step hbw hc; have hc := below_one (w := Wvz) (.cells #[.int .u8 vz.f0, .string vz.f1, .bool vz.f2.f0, .string vz.f2.f1, .slice Az vz.f2.f2.length cz, .int .i64 vz.f3, .slice Bz vz.f4.length dz] 27); (try have HX := HX.later hc); (try have HY := HY.later hc); (try have HZ := HZ.later hc); (try have HA := HA.later hc); (try have HB := HB.later hc); (try (have BU := blk_below BU hc; have HU := Tr.later HU hc)); (try have HC := HC.later hc); have hbw := below_step hbw hc; have HZ := HdM.new (x := vz) hR; (try obtain ⟨x0, x1, x2, x3, x4, x5, x6⟩ := HX.box); (try obtain ⟨y0, y1, y2, y3, y4, y5, y6⟩ := HY.box); (try obtain ⟨z0, z1, z2, z3, z4, z5, z6⟩ := HZ.box); (try obtain ⟨a0, a1, a2, a3, a4, a5, a6⟩ := HA.box))
    | (go_at_call 44; (with_reducible refine (qa _ _ _ _ _ HX.2).mono ?_); rintro e Wta ⟨r, rfl, hO, hc⟩; obtain ⟨Aa, ca, Ba, da, rfl, hR⟩ := hO.rd; dsimp only at hR ⊢; (try have HX := HX.later hc); (try have HY := HY.later hc); (try have HZ := HZ.later hc); (try have HA := HA.later hc); (try have HB := HB.later hc); (try (have BU := blk_below BU hc; have HU := Tr.later HU hc)); (try have HC := HC.later hc); have hbw := below_step hbw hc; have hc := below_one (w := Wta) (.cells #[.int .u8 ta.f0, .string ta.f1, .bool ta.f2.f0, .string ta.f2.f1, .slice Aa ta.f2.f2.length ca, .int .i64 ta.f3, .slice Ba ta.f4.length da] 27); (try have HX := HX.later hc); (try have HY := HY.later hc); (try have HZ := HZ.later hc); (try have HA := HA.later hc); (try have HB := HB.later hc); (try (have BU := blk_below BU hc; have HU := Tr.later HU hc)); (try have HC := HC.later hc); have hbw := below_step hbw hc; have HA := HdM.new (x := ta) hR; (try obtain ⟨x0, x1, x2, x3, x4, x5, x6⟩ := HX.box); (try obtain ⟨y0, y1, y2, y3, y4, y5, y6⟩ := HY.box); (try obtain ⟨z0, z1, z2, z3, z4, z5, z6⟩ := HZ.box); (try obtain ⟨a0, a1, a2, a3, a4, a5, a6⟩ := HA.box))
    | (go_at_call 44; (with_reducible refine (qb _ _ _ _ _ HY.2).mono ?_); rintro e Wtb ⟨r, rfl, hO, hc⟩; obtain ⟨Ab, cb, Bb, db, rfl, hR⟩ := hO.rd; dsimp only at hR ⊢; (try have HX := HX.later hc); (try have HY := HY.later hc); (try have HZ := HZ.later hc); (try have HA := HA.later hc); (try have HB := HB.later hc); (try (have BU := blk_below BU hc; have HU := Tr.later HU hc)); (try have HC := HC.later hc); have hbw := below_step hbw hc; have hc := below_one (w := Wtb) (.cells #[.int .u8 tb.f0, .string tb.f1, .bool tb.f2.f0, .string tb.f2.f1, .slice Ab tb.f2.f2.length cb, .int .i64 tb.f3, .slice Bb tb.f4.length db] 27); (try have HX := HX.later hc); (try have HY := HY.later hc); (try have HZ := HZ.later hc); (try have HA := HA.later hc); (try have HB := HB.later hc); (try (have BU := blk_below BU hc; have HU := Tr.later HU hc)); (try have HC := HC.later hc); have hbw := below_step hbw hc; have HB := HdM.new (x := tb) hR; (try obtain ⟨x0, x1, x2, x3, x4, x5, x6⟩ := HX.box); (try obtain ⟨y0, y1, y2, y3, y4, y5, y6⟩ := HY.box); (try obtain ⟨z0, z1, z2, z3, z4, z5, z6⟩ := HZ.box); (try obtain ⟨a0, a1, a2, a3, a4, a5, a6⟩ := HA.box))
    | (go_at_call 20; (with_reducible refine (qu _ _ _ _ _ HA.2).mono ?_); rintro e Wu ⟨r, rfl, hO, hc⟩; obtain ⟨Au, cu, rfl, hlu, hCu⟩ := hO; dsimp only at hlu hCu ⊢; (try have HX := HX.later hc); (try have HY := HY.later hc); (try have HZ := HZ.later hc); (try have HA := HA.later hc); (try have HB := HB.later hc); (try (have BU := blk_below BU hc; have HU := Tr.later HU hc)); (try have HC := HC.later hc); have hbw := below_step hbw hc; have hc := below_one (w := Wu) (.cells #[.bool u.f0, .string u.f1, .slice Au u.f2.length cu] 24); (try have HX := HX.later hc); (try have HY := HY.later hc); (try have HZ := HZ.later hc); (try have HA := HA.later hc); (try have HB := HB.later hc); (try (have BU := blk_below BU hc; have HU := Tr.later HU hc)); (try have HC := HC.later hc); have hbw := below_step hbw hc; have BU := blk_new Wu (.cells #[.bool u.f0, .string u.f1, .slice Au u.f2.length cu] 24); have HU : Tr (Wu.alloc (.cells #[.bool u.f0, .string u.f1, .slice Au u.f2.length cu] 24)) (.agg #[.bool u.f0, .string u.f1, .slice Au u.f2.length cu]) u := Tr.later ⟨Au, cu, rfl, hlu, hCu⟩ hc; (try obtain ⟨x0, x1, x2, x3, x4, x5, x6⟩ := HX.box); (try obtain ⟨y0, y1, y2, y3, y4, y5, y6⟩ := HY.box); (try obtain ⟨z0, z1, z2, z3, z4, z5, z6⟩ := HZ.box); (try obtain ⟨a0, a1, a2, a3, a4, a5, a6⟩ := HA.box))
    | (go_at_call 45; (with_reducible refine (qc _ _ _ _ _ _ _ _ _ HA.2 HZ.2).mono ?_); rintro e Wtc ⟨r, rfl, hO, hc⟩; obtain ⟨Ac, cc, Bc, dc, rfl, hR⟩ := hO.rd; dsimp only at hR ⊢; (try have HX := HX.later hc); (try have HY := HY.later hc); (try have HZ := HZ.later hc); (try have HA := HA.later hc); (try have HB := HB.later hc); (try (have BU := blk_below BU hc; have HU := Tr.later HU hc)); (try have HC := HC.later hc); have hbw := below_step hbw hc; have hc := below_one (w := Wtc) (.cells #[.int .u8 tc.f0, .string tc.f1, .bool tc.f2.f0, .string tc.f2.f1, .slice Ac tc.f2.f2.length cc, .int .i64 tc.f3, .slice Bc tc.f4.length dc] 27); (try have HX := HX.later hc); (try have HY := HY.later hc); (try have HZ := HZ.later hc); (try have HA := HA.later hc); (try have HB := HB.later hc); (try (have BU := blk_below BU hc; have HU := Tr.later HU hc)); (try have HC := HC.later hc); have hbw := below_step hbw hc; have HC := HdM.new (x := tc) hR; (try obtain ⟨x0, x1, x2, x3, x4, x5, x6⟩ := HX.box); (try obtain ⟨y0, y1, y2, y3, y4, y5, y6⟩ := HY.box); (try obtain ⟨z0, z1, z2, z3, z4, z5, z6⟩ := HZ.box); (try obtain ⟨a0, a1, a2, a3, a4, a5, a6⟩ := HA.box))
    | (go_at_call 41; (with_reducible refine (bool_calls _).mono ?_); rintro e Wq ⟨rfl, hc⟩; (try have HX := HX.later hc); (try have HY := HY.later hc); (try have HZ := HZ.later hc); (try have HA := HA.later hc); (try have HB := HB.later hc); (try (have BU := blk_below BU hc; have HU := Tr.later HU hc)); (try have HC := HC.later hc); have hbw := below_step hbw hc; (try obtain ⟨x0, x1, x2, x3, x4, x5, x6⟩ := HX.box); (try obtain ⟨y0, y1, y2, y3, y4, y5, y6⟩ := HY.box); (try obtain ⟨z0, z1, z2, z3, z4, z5, z6⟩ := HZ.box); (try obtain ⟨a0, a1, a2, a3, a4, a5, a6⟩ := HA.box)))
  have hc := below_two (w := Wq) (.cells #[.int .u8 3, .string ⟨#[]⟩, .bool false, .string ⟨#[]⟩, .slice none 0 0, .int .i64 0, .slice none 0 0] 27) (.cells #[.int .u8 5, .string ⟨#[120]⟩, .bool false, .string boolN, .slice none 0 0, .int .i64 0, .slice (some ⟨Wq.heap.size, 0, none⟩) 1 1] 27)
  (try have HX := HX.later hc); (try have HY := HY.later hc); (try have HZ := HZ.later hc); (try have HA := HA.later hc); (try have HB := HB.later hc); (try (have BU := blk_below BU hc; have HU := Tr.later HU hc)); (try have HC := HC.later hc); have hbw := below_step hbw hc
  have HM := blk_top (w := Wq) (.cells #[.int .u8 3, .string ⟨#[]⟩, .bool false, .string ⟨#[]⟩, .slice none 0 0, .int .i64 0, .slice none 0 0] 27) (.cells #[.int .u8 5, .string ⟨#[120]⟩, .bool false, .string boolN, .slice none 0 0, .int .i64 0, .slice (some ⟨Wq.heap.size, 0, none⟩) 1 1] 27)
  have HMr : RdM ((Wq.alloc (.cells #[.int .u8 3, .string ⟨#[]⟩, .bool false, .string ⟨#[]⟩, .slice none 0 0, .int .i64 0, .slice none 0 0] 27)).alloc (.cells #[.int .u8 5, .string ⟨#[120]⟩, .bool false, .string boolN, .slice none 0 0, .int .i64 0, .slice (some ⟨Wq.heap.size, 0, none⟩) 1 1] 27)) wantM none 0 (some ⟨Wq.heap.size, 0, none⟩) 1 := ⟨⟨nilC _ _, Nat.le_refl _⟩, row_oneM (y := ⟨3, ⟨#[]⟩, ⟨false, ⟨#[]⟩, []⟩, 0, []⟩) (A := none) (c := 0) (B := none) (d := 0) (blk_mid (w := Wq) (.cells #[.int .u8 3, .string ⟨#[]⟩, .bool false, .string ⟨#[]⟩, .slice none 0 0, .int .i64 0, .slice none 0 0] 27) (.cells #[.int .u8 5, .string ⟨#[120]⟩, .bool false, .string boolN, .slice none 0 0, .int .i64 0, .slice (some ⟨Wq.heap.size, 0, none⟩) 1 1] 27)) ⟨⟨nilC _ _, Nat.le_refl _⟩, Kd.F_now (nilFM none _ (fun _ => True)), Nat.le_refl _⟩, Nat.le_refl _⟩
  generalize (Wq.alloc (.cells #[.int .u8 3, .string ⟨#[]⟩, .bool false, .string ⟨#[]⟩, .slice none 0 0, .int .i64 0, .slice none 0 0] 27)).alloc (.cells #[.int .u8 5, .string ⟨#[120]⟩, .bool false, .string boolN, .slice none 0 0, .int .i64 0, .slice (some ⟨Wq.heap.size, 0, none⟩) 1 1] 27) = Wk at *
  have hD := below_drew1 (Below.refl Wk.heap.size Wk)
  have hK0 : AlM w Wk ta tb tc vz u Wta.heap.size (Wq.heap.size + 1) Wq.heap.size Wtb.heap.size Wtc.heap.size Wvz.heap.size Wu.heap.size Aa Ab Ac Az Ba Bb Bc Bz Au ca cb cc cz da db dc dz cu Wk.drew := AlM.step ⟨⟨HA.box, HB.box, HC.box, HZ.box⟩, box7 HM, ⟨(blk_cell BU 0).trans rfl, (blk_cell BU 1).trans rfl, (blk_cell BU 2).trans rfl⟩, Below.refl _ _, hbw⟩ hD
  have rA := HA.2
  have rB := HB.2
  have rC := HC.2
  have rZ := HZ.2
  have cE : ∀ W, AlM w Wk ta tb tc vz u Wta.heap.size (Wq.heap.size + 1) Wq.heap.size Wtb.heap.size Wtc.heap.size Wvz.heap.size Wu.heap.size Aa Ab Ac Az Ba Bb Bc Bz Au ca cb cc cz da db dc dz cu W → Calls Try.prog 34 #[.agg #[.int .u8 ta.f0, .string ta.f1, .bool ta.f2.f0, .string ta.f2.f1, .slice Aa ta.f2.f2.length ca, .int .i64 ta.f3, .slice Ba ta.f4.length da], .agg #[.int .u8 5, .string ⟨#[120]⟩, .bool false, .string boolN, .slice none 0 0, .int .i64 0, .slice (some ⟨Wq.heap.size, 0, none⟩) 1 1]] W (fun e w' => e = .returned (.bool true) ∧ AlM w Wk ta tb tc vz u Wta.heap.size (Wq.heap.size + 1) Wq.heap.size Wtb.heap.size Wtc.heap.size Wvz.heap.size Wu.heap.size Aa Ab Ac Az Ba Bb Bc Bz Au ca cb cc cz da db dc dz cu w') := fun W hw => (sequentref02_Exact.calls ke ta.f0 ta.f1 ta.f2.f0 ta.f2.f1 Aa ca ta.f2.f2 ta.f3 Ba da ta.f4 wantM.f0 wantM.f1 wantM.f2.f0 wantM.f2.f1 none 0 wantM.f2.f2 wantM.f3 (some ⟨Wq.heap.size, 0, none⟩) 1 wantM.f4 true W (rA.later hw.2.2.2.1).1.1 rA.1.2 (rA.later hw.2.2.2.1).2.1 rA.2.2 (HMr.later hw.2.2.2.1).1.1 HMr.1.2 (HMr.later hw.2.2.2.1).2.1 HMr.2.2 hke).mono (fun _ _ h => And.intro h.1 (hw.step h.2))
  have cS : ∀ W, AlM w Wk ta tb tc vz u Wta.heap.size (Wq.heap.size + 1) Wq.heap.size Wtb.heap.size Wtc.heap.size Wvz.heap.size Wu.heap.size Aa Ab Ac Az Ba Bb Bc Bz Au ca cb cc cz da db dc dz cu W → Calls Try.prog 18 #[.agg #[.int .u8 ta.f0, .string ta.f1, .bool ta.f2.f0, .string ta.f2.f1, .slice Aa ta.f2.f2.length ca, .int .i64 ta.f3, .slice Ba ta.f4.length da], .agg #[.int .u8 tb.f0, .string tb.f1, .bool tb.f2.f0, .string tb.f2.f1, .slice Ab tb.f2.f2.length cb, .int .i64 tb.f3, .slice Bb tb.f4.length db]] W (fun e w' => e = .returned (.bool true) ∧ AlM w Wk ta tb tc vz u Wta.heap.size (Wq.heap.size + 1) Wq.heap.size Wtb.heap.size Wtc.heap.size Wvz.heap.size Wu.heap.size Aa Ab Ac Az Ba Bb Bc Bz Au ca cb cc cz da db dc dz cu w') := fun W hw => (hs ▸ sameM_tr ta tb _ _ W ⟨_, _, _, _, rfl, rA.later hw.2.2.2.1⟩ ⟨_, _, _, _, rfl, rB.later hw.2.2.2.1⟩).mono (fun _ _ h => And.intro h.1 (hw.step h.2))
  have cS2 : ∀ W, AlM w Wk ta tb tc vz u Wta.heap.size (Wq.heap.size + 1) Wq.heap.size Wtb.heap.size Wtc.heap.size Wvz.heap.size Wu.heap.size Aa Ab Ac Az Ba Bb Bc Bz Au ca cb cc cz da db dc dz cu W → Calls Try.prog 18 #[.agg #[.int .u8 tc.f0, .string tc.f1, .bool tc.f2.f0, .string tc.f2.f1, .slice Ac tc.f2.f2.length cc, .int .i64 tc.f3, .slice Bc tc.f4.length dc], .agg #[.int .u8 vz.f0, .string vz.f1, .bool vz.f2.f0, .string vz.f2.f1, .slice Az vz.f2.f2.length cz, .int .i64 vz.f3, .slice Bz vz.f4.length dz]] W (fun e w' => e = .returned (.bool true) ∧ AlM w Wk ta tb tc vz u Wta.heap.size (Wq.heap.size + 1) Wq.heap.size Wtb.heap.size Wtc.heap.size Wvz.heap.size Wu.heap.size Aa Ab Ac Az Ba Bb Bc Bz Au ca cb cc cz da db dc dz cu w') := fun W hw => (hs2 ▸ sameM_tr tc vz _ _ W ⟨_, _, _, _, rfl, rC.later hw.2.2.2.1⟩ ⟨_, _, _, _, rfl, rZ.later hw.2.2.2.1⟩).mono (fun _ _ h => And.intro h.1 (hw.step h.2))
  have cT : ∀ r W, Tr W r ⟨false, funN, [tBl, tBl]⟩ → AlM w Wk ta tb tc vz u Wta.heap.size (Wq.heap.size + 1) Wq.heap.size Wtb.heap.size Wtc.heap.size Wvz.heap.size Wu.heap.size Aa Ab Ac Az Ba Bb Bc Bz Au ca cb cc cz da db dc dz cu W → Calls Try.prog 52 #[.agg #[.bool u.f0, .string u.f1, .slice Au u.f2.length cu], r] W (fun e w' => e = .returned (.bool true) ∧ AlM w Wk ta tb tc vz u Wta.heap.size (Wq.heap.size + 1) Wq.heap.size Wtb.heap.size Wtc.heap.size Wvz.heap.size Wu.heap.size Aa Ab Ac Az Ba Bb Bc Bz Au ca cb cc cz da db dc dz cu w') := fun r W hr hw => (ht ▸ same_tr u _ _ _ W (HU.later hw.2.2.2.1) hr).mono (fun _ _ h => And.intro h.1 (hw.step h.2))
  have cB : ∀ W, AlM w Wk ta tb tc vz u Wta.heap.size (Wq.heap.size + 1) Wq.heap.size Wtb.heap.size Wtc.heap.size Wvz.heap.size Wu.heap.size Aa Ab Ac Az Ba Bb Bc Bz Au ca cb cc cz da db dc dz cu W → Calls Try.prog 41 #[] W (fun e w' => e = .returned (.agg #[.bool false, .string boolN, .slice none 0 0]) ∧ AlM w Wk ta tb tc vz u Wta.heap.size (Wq.heap.size + 1) Wq.heap.size Wtb.heap.size Wtc.heap.size Wvz.heap.size Wu.heap.size Aa Ab Ac Az Ba Bb Bc Bz Au ca cb cc cz da db dc dz cu w') := fun W hw => (bool_calls W).mono (fun _ _ h => And.intro h.1 (hw.step h.2))
  have cF : ∀ W, AlM w Wk ta tb tc vz u Wta.heap.size (Wq.heap.size + 1) Wq.heap.size Wtb.heap.size Wtc.heap.size Wvz.heap.size Wu.heap.size Aa Ab Ac Az Ba Bb Bc Bz Au ca cb cc cz da db dc dz cu W → Calls Try.prog 42 #[.agg #[.bool false, .string boolN, .slice none 0 0], .agg #[.bool false, .string boolN, .slice none 0 0]] W (fun e w' => ∃ r, e = .returned r ∧ Tr w' r ⟨false, funN, [tBl, tBl]⟩ ∧ AlM w Wk ta tb tc vz u Wta.heap.size (Wq.heap.size + 1) Wq.heap.size Wtb.heap.size Wtc.heap.size Wvz.heap.size Wu.heap.size Aa Ab Ac Az Ba Bb Bc Bz Au ca cb cc cz da db dc dz cu w') := fun W hw => (fun_tr tBl tBl _ _ W (Tr.leaf false boolN W) (Tr.leaf false boolN W) (by decide) (by decide)).mono (fun _ _ h => by obtain ⟨r, h1, h2, h3⟩ := h; exact ⟨r, h1, h2, hw.step h3⟩)
  clear qx qy qz qa qb qu qc hs ht hs2 hke HX HY HZ HA HB HC HU BU HM HMr rA rB rC rZ hbw hc
  go_region_held3 (fun W => AlM w Wk ta tb tc vz u Wta.heap.size (Wq.heap.size + 1) Wq.heap.size Wtb.heap.size Wtc.heap.size Wvz.heap.size Wu.heap.size Aa Ab Ac Az Ba Bb Bc Bz Au ca cb cc cz da db dc dz cu W)
    (first | (with_reducible exact hK0) | (with_reducible assumption))
    (first
      | (go_at_call 34; (with_reducible refine (cE _ (by with_reducible assumption)).mono ?_); rintro e W1 ⟨rfl, hN⟩)
      | (go_at_call 18; (with_reducible refine (cS _ (by with_reducible assumption)).mono ?_); rintro e W1 ⟨rfl, hN⟩)
      | (go_at_call 18; (with_reducible refine (cS2 _ (by with_reducible assumption)).mono ?_); rintro e W1 ⟨rfl, hN⟩)
      | (go_at_call 41; (with_reducible refine (cB _ (by with_reducible assumption)).mono ?_); rintro e W1 ⟨rfl, hN⟩)
      | (go_at_call 42; (with_reducible refine (cF _ (by with_reducible assumption)).mono ?_); rintro e W1 ⟨r, rfl, HF, hN⟩)
      | (go_at_call 52; (with_reducible refine (cT _ _ HF (by with_reducible assumption)).mono ?_); rintro e W1 ⟨rfl, hN⟩))
  clear cE cS cS2 cT cB cF
  go_wp2
  go_ret
  exact ⟨rfl, hN.2.2.2.2⟩
def vM (n : ByteArray) : S27 := ⟨1, n, tBl, 0, []⟩
def lM (n : ByteArray) : S27 := ⟨5, n, tBl, 0, [⟨3, noN, zT, 0, []⟩]⟩
theorem fit_vM (n : ByteArray) (h : okS n) : fitM (vM n) := ⟨allM_mk ⟨h, fitBl, by show szT tBl ≤ 1000000; decide, by show _ ≤ (0 : Int); omega, by show (0 : Int) ≤ _; omega⟩ (fun x hx => by cases hx), by show szM (vM n) ≤ _; rw [szM_eq]; simp [vM, szML]⟩
theorem fit_lM (n : ByteArray) (h : okS n) : fitM (lM n) := by
  refine ⟨allM_mk ⟨h, fitBl, by show szT tBl ≤ 1000000; decide, by show _ ≤ (0 : Int); omega, by show (0 : Int) ≤ _; omega⟩ (fun x hx => ?_), by rw [szM_eq]; simp [lM, szML, szM]⟩
  obtain rfl : x = ⟨3, noN, zT, 0, []⟩ := by simpa [lM] using hx
  exact allM_mk (fitN_bound 0 (by omega) (by omega)) (fun x hx => by cases hx)
set_option maxRecDepth 100000 in
theorem aliveM_calls (w : World) : Calls Try.prog 15 #[] w fun e w' => e = .returned (.bool true) ∧ Below w.heap.size w w' :=
  aliveM_of w (vM nX) (vM nY) (vM nZ) (lM nX) (lM nY) (vM nZ) ⟨false, funN, [tBl, tBl]⟩ (by kernel_rfl) (by kernel_rfl) (by kernel_rfl) (by kernel_rfl) (by kernel_rfl) (by kernel_rfl) (by kernel_rfl) (by kernel_rfl)
    (fit_vM _ (by unfold okS nX; decide)) (fit_vM _ (by unfold okS nY; decide)) (fit_vM _ (by unfold okS nZ; decide)) (fit_lM _ (by unfold okS nX; decide)) (by kernel_rfl) (by kernel_rfl) (by kernel_rfl) (by kernel_rfl)
end Go.Proofs.Ytecplbgdalchdaa.Q
/- Proved here: rows of terms of one's own under construction. Conditions: those that each theorem names. -/
namespace Go.Proofs.Ytecplbgdalchdaa.Q
open Go.RowKit Go.Shelf Go.Proofs.YtecplbgdalchdaaW.PrintWords Go.Proofs.YtecplbgdalchdaaW.PrintMore
set_option linter.unusedVariables false
set_option linter.unusedSimpArgs false
attribute [local go_sem] Oper.semAt_some


def RowWM (w : World) (base : Nat) (v : Value) (ys : List S27) : Prop :=
  ∃ (inner : List Value) (ts ss : Nat → Value), w.ownsRow base 27 7 v ys.length inner ∧ ∀ j, j < ys.length → inner[j * 7]? = some (.int .u8 (rd_T27 ys (j : Int)).f0) ∧ inner[j * 7 + 1]? = some (.string (rd_T27 ys (j : Int)).f1) ∧ inner[j * 7 + 2]? = some (.bool (rd_T27 ys (j : Int)).f2.f0) ∧ inner[j * 7 + 3]? = some (.string (rd_T27 ys (j : Int)).f2.f1) ∧ inner[j * 7 + 4]? = some (ts j) ∧ inner[j * 7 + 5]? = some (.int .i64 (rd_T27 ys (j : Int)).f3) ∧ inner[j * 7 + 6]? = some (ss j) ∧ WT w (fun k => base ≤ k ∧ some k ≠ v.ownBlock) (ts j) (rd_T27 ys (j : Int)).f2.f2 ∧ WTM w (fun k => base ≤ k ∧ some k ≠ v.ownBlock) (ss j) (rd_T27 ys (j : Int)).f4
theorem RowWM.nil (w : World) (base : Nat) : RowWM w base (.slice none 0 0) [] := ⟨[], fun _ => undef, fun _ => undef, World.ownsRow_nil _ _ _ _, fun j hj => absurd hj (by simp)⟩
theorem RowWM.step {w w1 : World} {base : Nat} {v : Value} {ys : List S27} (h : RowWM w base v ys) (hm : ∀ k, base ≤ k → k < w.heap.size → w1.heap[k]? = w.heap[k]?) : RowWM w1 base v ys := by
  obtain ⟨inner, ts, ss, hrow, hel⟩ := h
  refine ⟨inner, ts, ss, own_move hrow (fun k hk => hm k (own_base hrow k hk) (own_lt hrow k hk)), fun j hj => ?_⟩
  obtain ⟨a0, a1, a2, a3, a4, a5, a6, a7, a8⟩ := hel j hj
  exact ⟨a0, a1, a2, a3, a4, a5, a6, a7.step (fun k hk hlt => hm k hk.1 hlt), a8.step (fun k hk hlt => hm k hk.1 hlt)⟩
theorem RowWM.later {w w1 : World} {base : Nat} {v : Value} {ys : List S27} (h : RowWM w base v ys) (hb : Below w.heap.size w w1) : RowWM w1 base v ys := h.step (fun k _ hk => hb.block k hk)
theorem RowWM.far {w : World} {base : Nat} {v : Value} {ys : List S27} (h : RowWM w base v ys) (p : Addr) (u : Value) (hp : p.block < base) : RowWM (w.setCell p u) base v ys := h.step (fun k hk _ => Below.heap_setCell w p u k (by omega))
theorem rm_left (ys : List S27) (x : S27) (j : Nat) (hj : j < ys.length) : rd_T27 (ys ++ [x]) (j : Int) = rd_T27 ys (j : Int) := by
  unfold rd_T27
  simp only [Int.toNat_natCast]
  rw [List.getD_eq_getElem?_getD, List.getD_eq_getElem?_getD, List.getElem?_append_left hj]
theorem rm_last (ys : List S27) (x : S27) : rd_T27 (ys ++ [x]) (ys.length : Int) = x := by
  unfold rd_T27
  simp only [Int.toNat_natCast]
  rw [List.getD_eq_getElem?_getD, List.getElem?_append_right (Nat.le_refl _)]
  simp
theorem WTM.bound {w : World} {ok : Nat → Prop} {v : Value} {l : List S27} (h : WTM w ok v l) : WTM w (fun k => ok k ∧ k < w.heap.size) v l := by
  induction h with
  | nil A c => exact .nil A c
  | row g cap cur l ts ss hn hg hb hl hm hz h0 ht hr ih => exact .row g cap cur l ts ss hn ⟨hg, blk_lt hb⟩ hb hl hm hz h0 (fun j hj => (ht j hj).bound) (fun j hj => ih j hj)
theorem WT.kind {w : World} {ok : Nat → Prop} {v : Value} {l : List S24} (h : WT w ok v l) : WT w (fun k => ok k ∧ ∃ cur, w.heap[k]? = some (.cells cur 24 (0, 0))) v l := by
  induction h with
  | nil A c => exact .nil A c
  | row g cap cur l vs hn hg hb hl hm hz h0 h1 h2 hr ih => exact .row g cap cur l vs hn ⟨hg, _, hb⟩ hb hl hm hz h0 h1 h2 (fun j hj => ih j hj)
theorem WTM.kind {w : World} {ok : Nat → Prop} {v : Value} {l : List S27} (h : WTM w ok v l) : WTM w (fun k => ok k ∧ ((∃ cur, w.heap[k]? = some (.cells cur 24 (0, 0))) ∨ ∃ cur, w.heap[k]? = some (.cells cur 27 (0, 0)))) v l := by
  induction h with
  | nil A c => exact .nil A c
  | row g cap cur l ts ss hn hg hb hl hm hz h0 ht hr ih => exact .row g cap cur l ts ss hn ⟨hg, .inr ⟨_, hb⟩⟩ hb hl hm hz h0 (fun j hj => (ht j hj).kind.mono (fun k hk => ⟨hk.1, .inl hk.2⟩)) (fun j hj => ih j hj)
/-- Strings are appended to a row of their own: the terms' row stays. -/
theorem RowWM.strs {w w1 : World} {base : Nat} {v : Value} {ys : List S27} {row : Option Nat} (h : RowWM w base v ys) (hg : w.grownBy w1 row) (hne : ∀ k, row = some k → ∃ cur, w.heap[k]? = some (.cells cur 9 (0, 0))) : RowWM w1 base v ys := by
  obtain ⟨inner, ts, ss, hrow, hel⟩ := h
  have hd : ∀ (k : Nat) (cur : Array Value) (t : TypeId), t ≠ 9 → w.heap[k]? = some (.cells cur t (0, 0)) → some k ≠ row := by
    intro k cur t ht hb he
    obtain ⟨cur2, hb2⟩ := hne k he.symm
    rw [hb] at hb2
    injection hb2 with hb2
    injection hb2 with _ hb2
    exact ht hb2
  refine ⟨inner, ts, ss, own_move hrow (fun k hk => ?_), fun j hj => ?_⟩
  · obtain ⟨cur, hc⟩ := own_typed hrow k hk
    exact hg.block k (own_lt hrow k hk) (hd k cur _ (by decide) hc)
  · obtain ⟨a0, a1, a2, a3, a4, a5, a6, a7, a8⟩ := hel j hj
    refine ⟨a0, a1, a2, a3, a4, a5, a6, (a7.kind.step (fun k hk hlt => ?_)).mono (fun k hk => hk.1), (a8.kind.step (fun k hk hlt => ?_)).mono (fun k hk => hk.1)⟩
    · obtain ⟨cur, hc⟩ := hk.2
      exact hg.block k hlt (hd k cur _ (by decide) hc)
    · rcases hk.2 with ⟨cur, hc⟩ | ⟨cur, hc⟩
      · exact hg.block k hlt (hd k cur _ (by decide) hc)
      · exact hg.block k hlt (hd k cur _ (by decide) hc)
theorem RowWM.next {w w3 : World} {base g cap : Nat} {v u z : Value} {ys : List S27} {x : S27} {inner : List Value} {ts ss : Nat → Value} (hrow : w.ownsRow base 27 7 v ys.length inner)
    (hel : ∀ j, j < ys.length → inner[j * 7]? = some (.int .u8 (rd_T27 ys (j : Int)).f0) ∧ inner[j * 7 + 1]? = some (.string (rd_T27 ys (j : Int)).f1) ∧ inner[j * 7 + 2]? = some (.bool (rd_T27 ys (j : Int)).f2.f0) ∧ inner[j * 7 + 3]? = some (.string (rd_T27 ys (j : Int)).f2.f1) ∧ inner[j * 7 + 4]? = some (ts j) ∧ inner[j * 7 + 5]? = some (.int .i64 (rd_T27 ys (j : Int)).f3) ∧ inner[j * 7 + 6]? = some (ss j) ∧ WT w (fun k => base ≤ k ∧ some k ≠ v.ownBlock) (ts j) (rd_T27 ys (j : Int)).f2.f2 ∧ WTM w (fun k => base ≤ k ∧ some k ≠ v.ownBlock) (ss j) (rd_T27 ys (j : Int)).f4)
    (hu : WT w (fun k => base ≤ k ∧ some k ≠ v.ownBlock) u x.f2.f2) (hz : WTM w (fun k => base ≤ k ∧ some k ≠ v.ownBlock) z x.f4) (hown : w3.ownsRow base 27 7 (.slice (some ⟨g, 0, none⟩) (ys.length + 1) cap) (ys.length + 1) (inner ++ [.int .u8 x.f0, .string x.f1, .bool x.f2.f0, .string x.f2.f1, u, .int .i64 x.f3, z]))
    (hkeep : ∀ k, base ≤ k → k < w.heap.size → some k ≠ v.ownBlock → w3.heap[k]? = w.heap[k]?) (hat : v.ownBlock = some g ∨ g = w.heap.size) : RowWM w3 base (.slice (some ⟨g, 0, none⟩) (ys.length + 1) cap) (ys ++ [x]) := by
  have hil : inner.length = ys.length * 7 := hrow.1
  have hkm : ∀ k, ((base ≤ k ∧ some k ≠ v.ownBlock) ∧ k < w.heap.size) → base ≤ k ∧ some k ≠ (Value.slice (some ⟨g, 0, none⟩) (ys.length + 1) cap).ownBlock := by
    intro k hk
    refine ⟨hk.1.1, fun he => ?_⟩
    have hkg : k = g := by simpa [Value.ownBlock] using he
    subst hkg
    rcases hat with hat | hat
    · exact hk.1.2 hat.symm
    · have := hk.2; omega
  have hmv : ∀ {z : Value} {l : List S24}, WT w (fun k => base ≤ k ∧ some k ≠ v.ownBlock) z l → WT w3 (fun k => base ≤ k ∧ some k ≠ (Value.slice (some ⟨g, 0, none⟩) (ys.length + 1) cap).ownBlock) z l :=
    fun h => (h.bound.step (fun k hk hlt => hkeep k hk.1.1 hlt hk.1.2)).mono hkm
  have hmv2 : ∀ {z : Value} {l : List S27}, WTM w (fun k => base ≤ k ∧ some k ≠ v.ownBlock) z l → WTM w3 (fun k => base ≤ k ∧ some k ≠ (Value.slice (some ⟨g, 0, none⟩) (ys.length + 1) cap).ownBlock) z l :=
    fun h => (h.bound.step (fun k hk hlt => hkeep k hk.1.1 hlt hk.1.2)).mono hkm
  refine ⟨inner ++ [.int .u8 x.f0, .string x.f1, .bool x.f2.f0, .string x.f2.f1, u, .int .i64 x.f3, z], fun j => if j = ys.length then u else ts j, fun j => if j = ys.length then z else ss j, by simpa using hown, fun j hj => ?_⟩
  rw [List.length_append, List.length_singleton] at hj
  by_cases hje : j = ys.length
  · subst hje
    simp only [if_true]
    rw [rm_last]
    refine ⟨?_, ?_, ?_, ?_, ?_, ?_, ?_, hmv hu, hmv2 hz⟩
    · rw [List.getElem?_append_right (by omega), hil, Nat.sub_self]; rfl
    · rw [List.getElem?_append_right (by omega), hil, Nat.add_sub_cancel_left]; rfl
    · rw [List.getElem?_append_right (by omega), hil, Nat.add_sub_cancel_left]; rfl
    · rw [List.getElem?_append_right (by omega), hil, Nat.add_sub_cancel_left]; rfl
    · rw [List.getElem?_append_right (by omega), hil, Nat.add_sub_cancel_left]; rfl
    · rw [List.getElem?_append_right (by omega), hil, Nat.add_sub_cancel_left]; rfl
    · rw [List.getElem?_append_right (by omega), hil, Nat.add_sub_cancel_left]; rfl
  · have hj2 : j < ys.length := by omega
    obtain ⟨q0, q1, q2, q3, q4, q5, q6, q7, q8⟩ := hel j hj2
    simp only [if_neg hje]
    rw [rm_left _ _ _ hj2]
    have : (j + 1) * 7 ≤ ys.length * 7 := Nat.mul_le_mul_right _ hj2
    exact ⟨by rw [List.getElem?_append_left (by omega)]; exact q0, by rw [List.getElem?_append_left (by omega)]; exact q1, by rw [List.getElem?_append_left (by omega)]; exact q2, by rw [List.getElem?_append_left (by omega)]; exact q3, by rw [List.getElem?_append_left (by omega)]; exact q4, by rw [List.getElem?_append_left (by omega)]; exact q5, by rw [List.getElem?_append_left (by omega)]; exact q6, hmv q7, hmv2 q8⟩
theorem RowWM.tree {w : World} {base : Nat} {v : Value} {ys : List S27} (h : RowWM w base v ys) : WTM w (fun k => base ≤ k) v ys := by
  obtain ⟨inner, ts, ss, ⟨h1, h2⟩, hel⟩ := h
  rcases h2 with ⟨rfl, h2⟩ | ⟨g, cap, cur, rfl, hg, hb, hl, hm, hz, ht⟩
  · obtain rfl := List.length_eq_zero_iff.1 h2
    exact .nil _ _
  · rcases Nat.eq_zero_or_pos ys.length with h3 | h3
    · obtain rfl := List.length_eq_zero_iff.1 h3
      exact .nil _ _
    · have hs : ∀ j i, j < ys.length → i < 7 → cur[j * 7 + i]? = inner[j * 7 + i]? := by
        intro j i hj hi
        have hlt : j * 7 + i < ys.length * 7 := by
          have : (j + 1) * 7 ≤ ys.length * 7 := Nat.mul_le_mul_right _ hj
          omega
        rw [← ht, List.getElem?_take_of_lt hlt, Array.getElem?_toList]
      refine .row g cap cur ys ts ss h3 hg hb hl (by simpa [maxLen] using hm) hz (fun j hj => ?_) (fun j hj => (hel j hj).2.2.2.2.2.2.2.1.mono (fun k hk => hk.1)) (fun j hj => (hel j hj).2.2.2.2.2.2.2.2.mono (fun k hk => hk.1))
      obtain ⟨q0, q1, q2, q3, q4, q5, q6, q7, q8⟩ := hel j hj
      exact ⟨(hs j 0 hj (by omega)).trans q0, (hs j 1 hj (by omega)).trans q1, (hs j 2 hj (by omega)).trans q2, (hs j 3 hj (by omega)).trans q3, (hs j 4 hj (by omega)).trans q4, (hs j 5 hj (by omega)).trans q5, (hs j 6 hj (by omega)).trans q6⟩
theorem RowWM.reads {w : World} {base : Nat} {v : Value} {ys : List S27} (h : RowWM w base v ys) : ∃ A c, v = .slice A ys.length c ∧ ys.length ≤ c ∧ k27.C w A ys.length ys := h.tree.reads
/-- The placeholder's cells, overwritten. -/
theorem own_stored7 {w : World} {base g cap n : Nat} {inner : List Value} {z0 z1 z2 z3 z4 z5 z6 : Value} (x0 x1 x2 x3 x4 x5 x6 : Value) (hil : inner.length = n * 7) (h : w.ownsRow base 27 7 (.slice (some ⟨g, 0, none⟩) (n + 1) cap) (n + 1) (inner ++ [z0, z1, z2, z3, z4, z5, z6])) :
    let w' := ((((((w.setCell ⟨g, n * 7, none⟩ x0).setCell ⟨g, n * 7 + 1, none⟩ x1).setCell ⟨g, n * 7 + 2, none⟩ x2).setCell ⟨g, n * 7 + 3, none⟩ x3).setCell ⟨g, n * 7 + 4, none⟩ x4).setCell ⟨g, n * 7 + 5, none⟩ x5).setCell ⟨g, n * 7 + 6, none⟩ x6
    w'.ownsRow base 27 7 (.slice (some ⟨g, 0, none⟩) (n + 1) cap) (n + 1) (inner ++ [x0, x1, x2, x3, x4, x5, x6]) ∧ w.grownBy w' (some g) := by
  have h0 := h.stored (n * 7) x0
  have h1 := h0.1.stored (n * 7 + 1) x1
  have h2 := h1.1.stored (n * 7 + 2) x2
  have h3 := h2.1.stored (n * 7 + 3) x3
  have h4 := h3.1.stored (n * 7 + 4) x4
  have h5 := h4.1.stored (n * 7 + 5) x5
  have h6 := h5.1.stored (n * 7 + 6) x6
  refine ⟨?_, (((((h0.2.trans h1.2).trans h2.2).trans h3.2).trans h4.2).trans h5.2).trans h6.2⟩
  have hset : ∀ (i : Nat) (y : Value) (l : List Value), (inner ++ l).set (n * 7 + i) y = inner ++ l.set i y := by
    intro i y l
    rw [List.set_append_right _ _ (by omega), hil, Nat.add_sub_cancel_left]
  have hset0 : ∀ (y : Value) (l : List Value), (inner ++ l).set (n * 7) y = inner ++ l.set 0 y := fun y l => hset 0 y l
  have := h6.1
  rw [hset0, hset, hset, hset, hset, hset, hset] at this
  simpa using this
theorem own_slice_ne {g g' n cap k : Nat} (h : (Value.slice (some ⟨g', 0, none⟩) n cap).ownBlock = some k) (hne : g ≠ g') : k ≠ g := by
  have : g' = k := by simpa [Value.ownBlock] using h
  omega
theorem own_cells7 {w : World} {base g cap n : Nat} {inner : List Value} {z0 z1 z2 z3 z4 z5 z6 : Value} (hil : inner.length = n * 7) (h : w.ownsRow base 27 7 (.slice (some ⟨g, 0, none⟩) (n + 1) cap) (n + 1) (inner ++ [z0, z1, z2, z3, z4, z5, z6])) :
    w.cell? ⟨g, n * 7, none⟩ = some z0 ∧ w.cell? ⟨g, n * 7 + 1, none⟩ = some z1 ∧ w.cell? ⟨g, n * 7 + 2, none⟩ = some z2 ∧ w.cell? ⟨g, n * 7 + 3, none⟩ = some z3 ∧ w.cell? ⟨g, n * 7 + 4, none⟩ = some z4 ∧ w.cell? ⟨g, n * 7 + 5, none⟩ = some z5 ∧ w.cell? ⟨g, n * 7 + 6, none⟩ = some z6 ∧ w.frozen? ⟨g, n * 7, none⟩ = false ∧ w.frozen? ⟨g, n * 7 + 1, none⟩ = false ∧ w.frozen? ⟨g, n * 7 + 2, none⟩ = false ∧ w.frozen? ⟨g, n * 7 + 3, none⟩ = false ∧ w.frozen? ⟨g, n * 7 + 4, none⟩ = false ∧ w.frozen? ⟨g, n * 7 + 5, none⟩ = false ∧ w.frozen? ⟨g, n * 7 + 6, none⟩ = false := by
  have hf := fun j => h.frozenAt j
  rcases h.2 with ⟨h', _⟩ | ⟨g', cap', cur, h', hb, hg, hnc, hcm, hcs, htake⟩
  · simp at h'
  · simp only [Value.slice.injEq, Option.some.injEq, Addr.mk.injEq, and_true, true_and] at h'
    obtain ⟨rfl, rfl⟩ := h'
    have hc : ∀ i, i < 7 → w.cell? ⟨g, n * 7 + i, none⟩ = ([z0, z1, z2, z3, z4, z5, z6] : List Value)[i]? := fun i hi => by
      have he : ([z0, z1, z2, z3, z4, z5, z6] : List Value)[i]? = (inner ++ [z0, z1, z2, z3, z4, z5, z6])[n * 7 + i]? := by rw [List.getElem?_append_right (by omega), hil, Nat.add_sub_cancel_left]
      rw [he, ← htake, List.getElem?_take_of_lt (show n * 7 + i < (n + 1) * 7 by omega), Array.getElem?_toList]
      exact cell_of_row w g (n * 7 + i) cur _ _ hg
    exact ⟨hc 0 (by omega), hc 1 (by omega), hc 2 (by omega), hc 3 (by omega), hc 4 (by omega), hc 5 (by omega), hc 6 (by omega), hf _, hf _, hf _, hf _, hf _, hf _, hf _⟩
end Go.Proofs.Ytecplbgdalchdaa.Q
/- Proved here: the walker of terms: its state, what a step may change, and whether it holds a variable. Conditions: those that each theorem names. -/
namespace Go.Proofs.Ytecplbgdalchdaa.Q
open Go.RowKit Go.Shelf Go.Proofs.YtecplbgdalchdaaW.PrintWords Go.Proofs.YtecplbgdalchdaaW.PrintMore
set_option linter.unusedVariables false
set_option linter.unusedSimpArgs false
attribute [local go_sem] Oper.semAt_some


set_option maxHeartbeats 2000000 in
set_option maxRecDepth 100000 in
theorem note1_calls (y x : S27) (A : Option Addr) (c : Nat) (B : Option Addr) (d : Nat) (A' : Option Addr) (c' : Nat) (B' : Option Addr) (d' : Nat) (gx : Nat) (w : World) (hbox : w.heap[gx]? = some (.cells #[.int .u8 x.f0, .string x.f1, .bool x.f2.f0, .string x.f2.f1, .slice A' x.f2.f2.length c', .int .i64 x.f3, .slice B' x.f4.length d'] 27 (0, 0))) (hy : RdM w y A c B d) (hx : RdM w x A' c' B' d') :
    Calls Try.prog 169 #[.agg #[.int .u8 y.f0, .string y.f1, .bool y.f2.f0, .string y.f2.f1, .slice A y.f2.f2.length c, .int .i64 y.f3, .slice B y.f4.length d], .pointer (some ⟨gx, 0, none⟩)] w fun e w' => e = .returned (.bool (cmpM y x == 0)) ∧ Below w.heap.size w w' := by
  have hb0 := below_one (w := w) (.cells #[.int .u8 y.f0, .string y.f1, .bool y.f2.f0, .string y.f2.f1, .slice A y.f2.f2.length c, .int .i64 y.f3, .slice B y.f4.length d] 27)
  have BY := blk_new w (.cells #[.int .u8 y.f0, .string y.f1, .bool y.f2.f0, .string y.f2.f1, .slice A y.f2.f2.length c, .int .i64 y.f3, .slice B y.f4.length d] 27)
  have BX := blk_below hbox hb0
  obtain ⟨y0, y1, y2, y3, y4, y5, y6⟩ := box7 BY
  obtain ⟨x0, x1, x2, x3, x4, x5, x6⟩ := box7 BX
  have hs := sameM_tr y x (.agg #[.int .u8 y.f0, .string y.f1, .bool y.f2.f0, .string y.f2.f1, .slice A y.f2.f2.length c, .int .i64 y.f3, .slice B y.f4.length d]) (.agg #[.int .u8 x.f0, .string x.f1, .bool x.f2.f0, .string x.f2.f1, .slice A' x.f2.f2.length c', .int .i64 x.f3, .slice B' x.f4.length d']) _ ⟨_, _, _, _, rfl, hy.later hb0⟩ ⟨_, _, _, _, rfl, hx.later hb0⟩
  clear hbox hy hx
  go_enter Try.func169, Try.ntmps169
  go_wp2_with (go_at_call 18; (with_reducible refine hs.mono ?_); rintro e w2 ⟨rfl, hb2⟩)
  go_ret
  exact ⟨rfl, below_step hb0 hb2⟩
theorem containsM (x : S27) : ∀ l : List S27, containsO (fun y => some (cmpM y x == 0)) l = some (hasM l x)
  | [] => rfl
  | y :: l => by
    simp only [containsO, Option.bind_some, hasM, List.any_cons]
    cases hq : (cmpM y x == 0) with
    | true => simp
    | false => simpa [hasM] using containsM x l
theorem hasM_calls (l : List S27) (x : S27) (A : Option Addr) (c : Nat) (A' : Option Addr) (c' : Nat) (B' : Option Addr) (d' : Nat) (gx : Nat) (w : World) (hl : k27.C w A l.length l) (hbox : w.heap[gx]? = some (.cells #[.int .u8 x.f0, .string x.f1, .bool x.f2.f0, .string x.f2.f1, .slice A' x.f2.f2.length c', .int .i64 x.f3, .slice B' x.f4.length d'] 27 (0, 0))) (hx : RdM w x A' c' B' d') :
    Calls Try.prog 144 #[.slice A l.length c, .func (.func 169) #[] #[.pointer (some ⟨gx, 0, none⟩)]] w fun e w' => e = .returned (.bool (hasM l x)) ∧ Below w.heap.size w w' := by
  refine containsFunc_TM 169 #[.pointer (some ⟨gx, 0, none⟩)] (enters_of Try.func169 (by kernel_rfl) rfl) (fun y => some (cmpM y x == 0)) w A c l _ hl (fun y _ b hb => ?_) (containsM x l)
  obtain rfl := Option.some.inj hb
  intro W A4 c4 A6 c6 hW h1 h2 h3 h4
  exact (note1_calls y x A4 c4 A6 c6 A' c' B' d' gx W (blk_below hbox hW) ⟨⟨h2, h1⟩, h4, h3⟩ (hx.later hW)).mono (fun _ _ h => ⟨h.1, below_step hW h.2⟩)
/-! ### The walker -/
abbrev StrR (w : World) (base : Nat) (u : Value) (ts : List ByteArray) : Prop := Kd.R Kd.string 9 w base (fun _ => True) u ts
def NtB (W : World) (g : Nat) (v u : Value) : Prop := W.heap[g]? = some (.cells #[v, u] 126 (0, 0))
/-- What the walker holds. -/
def NtS (base g : Nat) (vs : List S27) (ts : List ByteArray) (W : World) : Prop := ∃ v u, NtB W g v u ∧ RowWM W base v vs ∧ StrR W base u ts
/-- The walker's rows. -/
def NtR (W : World) (g k : Nat) : Prop := ∃ v u, NtB W g v u ∧ (v.ownBlock = some k ∨ u.ownBlock = some k)
/-- What a step may change. -/
structure NtK (g : Nat) (W W' : World) : Prop where
  below : Below g W W'
  keep : ∀ k, k < W.heap.size → k ≠ g → ¬ NtR W g k → W'.heap[k]? = W.heap[k]?
  rows : ∀ k, NtR W' g k → NtR W g k ∨ W.heap.size ≤ k
theorem NtK.size {g : Nat} {W W' : World} (h : NtK g W W') : W.heap.size ≤ W'.heap.size := h.below.size
theorem NtK.trans {g : Nat} {W W1 W2 : World} (h : NtK g W W1) (h2 : NtK g W1 W2) : NtK g W W2 := by
  refine ⟨h.below.trans h2.below, fun k hk hg hn => ?_, fun k hk => ?_⟩
  · have hn1 : ¬ NtR W1 g k := fun hr => by
      rcases h.rows k hr with h | h
      · exact hn h
      · omega
    exact (h2.keep k (Nat.lt_of_lt_of_le hk h.size) hg hn1).trans (h.keep k hk hg hn)
  · rcases h2.rows k hk with h3 | h3
    · exact h.rows k h3
    · exact .inr (Nat.le_trans h.size h3)
theorem NtB.inj {W : World} {g : Nat} {v u v' u' : Value} (h : NtB W g v u) (h' : NtB W g v' u') : v' = v ∧ u' = u := by
  unfold NtB at h h'
  rw [h] at h'
  simp only [Option.some.injEq, Obj.cells.injEq, Array.mk.injEq, List.cons.injEq, and_true] at h'
  exact ⟨h'.1.symm, h'.2.symm⟩
theorem NtB.lt {W : World} {g : Nat} {v u : Value} (h : NtB W g v u) : g < W.heap.size := blk_lt h
/-- Memory that is made, or read. -/
theorem NtK.of_below {g : Nat} {W W' : World} (hg : g < W.heap.size) (hb : Below W.heap.size W W') : NtK g W W' := by
  refine ⟨hb.mono (Nat.le_of_lt hg), fun k hk _ _ => hb.block k hk, fun k hk => .inl ?_⟩
  obtain ⟨v, u, h, hk⟩ := hk
  exact ⟨v, u, (hb.block g hg).symm.trans h, hk⟩
theorem NtS.later {base g : Nat} {vs : List S27} {ts : List ByteArray} {W W' : World} (h : NtS base g vs ts W) (hb : Below W.heap.size W W') : NtS base g vs ts W' := by
  obtain ⟨v, u, h1, h2, h3⟩ := h
  exact ⟨v, u, blk_below h1 hb, h2.later hb, Kd.R_below h3 hb⟩
/-- A block that is not the walker's stays. -/
theorem NtK.blk {g k : Nat} {W W' : World} {o : Obj} (h : NtK g W W') (hb : W.heap[k]? = some o) (hg : k ≠ g) (hn : ¬ NtR W g k) : W'.heap[k]? = some o := (h.keep k (blk_lt hb) hg hn).trans hb
theorem NtS.not_row {base g k : Nat} {vs : List S27} {ts : List ByteArray} {W W' : World} (h : NtS base g vs ts W) (hb : Below W.heap.size W W') (hk : W.heap.size ≤ k) : ¬ NtR W' g k := by
  obtain ⟨v, u, h1, ⟨_, _, _, h2, _⟩, ⟨_, _, h3, _⟩⟩ := h
  rintro ⟨v', u', h4, h5⟩
  obtain ⟨rfl, rfl⟩ := NtB.inj (show NtB W' g v u from blk_below h1 hb) h4
  rcases h5 with h5 | h5
  · have := own_lt h2 k h5; omega
  · have := own_lt h3 k h5; omega
theorem NtS.start {w : World} {g : Nat} (hb : w.heap[g]? = some (.cells #[.slice none 0 0, .slice none 0 0] 126 (0, 0))) : NtS (g + 1) g [] [] w := ⟨_, _, hb, .nil _ _, Kd.R_nil Kd.string _ _ _ _⟩
end Go.Proofs.Ytecplbgdalchdaa.Q
/- Proved here: what the walker's two appends do to its state. Conditions: those that each theorem names. -/
namespace Go.Proofs.Ytecplbgdalchdaa.Q
open Go.RowKit Go.Shelf Go.Proofs.YtecplbgdalchdaaW.PrintWords Go.Proofs.YtecplbgdalchdaaW.PrintMore
set_option linter.unusedVariables false
set_option linter.unusedSimpArgs false
attribute [local go_sem] Oper.semAt_some


theorem Nt_str {W W1 : World} {base g : Nat} {v u u' : Value} {vs : List S27} {ts : List ByteArray} {s : ByteArray} (hgb : g < base) (hB : NtB W g v u) (hV : RowWM W base v vs) (hU : StrR W base u ts)
    (hR : StrR W1 base u' (ts ++ [s])) (hb : Below base W W1) (hg : W.grownBy W1 u.ownBlock) (hat : u'.ownBlock = u.ownBlock ∨ ∃ b, u'.ownBlock = some b ∧ W.heap.size ≤ b) :
    NtS base g vs (ts ++ [s]) (W1.setCell ⟨g, 1, none⟩ u') ∧ NtK g W (W1.setCell ⟨g, 1, none⟩ u') := by
  have hub : ∀ k, u.ownBlock = some k → base ≤ k := fun k hk => by
    obtain ⟨_, _, ho, _⟩ := hU
    exact own_base ho k hk
  have hut : ∀ k, u.ownBlock = some k → ∃ cur, W.heap[k]? = some (.cells cur 9 (0, 0)) := fun k hk => by
    obtain ⟨_, _, ho, _⟩ := hU
    exact own_typed ho k hk
  have hu'b : ∀ k, u'.ownBlock = some k → base ≤ k := fun k hk => by
    obtain ⟨_, _, ho, _⟩ := hR
    exact own_base ho k hk
  have hB1 : W1.heap[g]? = some (.cells #[v, u] 126 (0, 0)) := (hg.block g hB.lt (fun e => by have := hub g e.symm; omega)).trans hB
  have hB2 : NtB (W1.setCell ⟨g, 1, none⟩ u') g v u' := blk_put hB1 1 u' rfl
  refine ⟨⟨v, u', hB2, (hV.strs hg hut).far _ _ hgb, Kd.R_mono (Kd.R_step (Kd.R_tight (by rfl) hR) (fun k hk _ => Below.heap_setCell _ _ _ k (by have := hu'b k hk.symm; simp; omega))) (fun _ _ => trivial)⟩, ⟨(hb.mono (Nat.le_of_lt hgb)).setCell (Nat.le_refl _) _, fun k hk hne hn => ?_, fun k hk => ?_⟩⟩
  · rw [Below.heap_setCell _ _ _ k hne]
    exact hg.block k hk (fun e => hn ⟨v, u, hB, .inr e.symm⟩)
  · obtain ⟨v2, u2, h2, h3⟩ := hk
    obtain ⟨rfl, rfl⟩ := NtB.inj hB2 h2
    rcases h3 with h3 | h3
    · exact .inl ⟨v2, u, hB, .inl h3⟩
    · rcases hat with h | ⟨b, h, hlb⟩
      · exact .inl ⟨v2, u, hB, .inr (h ▸ h3)⟩
      · rw [h] at h3
        injection h3 with h3
        exact .inr (by omega)
def NtW (Wp : World) (base g g' cap n : Nat) (v u ut us : Value) (x : S27) (inner : List Value) (W5 : World) : Prop :=
  W5.ownsRow base 27 7 (.slice (some ⟨g', 0, none⟩) (n + 1) cap) (n + 1) (inner ++ [.int .u8 x.f0, .string x.f1, .bool x.f2.f0, .string x.f2.f1, ut, .int .i64 x.f3, us]) ∧ (∀ k, k < Wp.heap.size → k ≠ g → some k ≠ v.ownBlock → W5.heap[k]? = Wp.heap[k]?) ∧ NtB W5 g (.slice (some ⟨g', 0, none⟩) (n + 1) cap) u ∧ Below g Wp W5
theorem Nt_after {Wp W3 : World} {base g g' cap n : Nat} {v u ut us : Value} {x : S27} {inner : List Value} (hil : inner.length = n * 7) (hgb : g < base) (hgp : g < Wp.heap.size) (hB : Wp.heap[g]? = some (.cells #[v, u] 126 (0, 0)))
    (hvb : ∀ k, v.ownBlock = some k → base ≤ k) (hbp : base ≤ Wp.heap.size) (hown : W3.ownsRow base 27 7 (.slice (some ⟨g', 0, none⟩) (n + 1) cap) (n + 1) (inner ++ [.int .u8 0, .string ⟨#[]⟩, .bool false, .string ⟨#[]⟩, .slice none 0 0, .int .i64 0, .slice none 0 0])) (hgr : Wp.grownBy W3 v.ownBlock) (hat : v.ownBlock = some g' ∨ g' = Wp.heap.size) : (W3.heap[g]? = some (.cells #[v, u] 126 (0, 0)) ∧ base ≤ g') ∧ Below g Wp W3 ∧ ∀ k, k < Wp.heap.size → k ≠ g → some k ≠ v.ownBlock → k ≠ g' ∧ W3.heap[k]? = Wp.heap[k]? := by
  have hg' : base ≤ g' := by
    rcases hat with h | h
    · exact hvb _ h
    · omega
  refine ⟨⟨(hgr.block g hgp (fun e => by have := hvb g e.symm; omega)).trans hB, hg'⟩, (Below.refl g Wp).grown hgr (Nat.le_of_lt hgp) (fun k hk => by have := hvb k hk; omega), fun k hk _ hn => ⟨fun e => ?_, hgr.block k hk hn⟩⟩
  subst e
  rcases hat with h | h
  · exact hn h.symm
  · omega
theorem Nt_wa {Wp W3 : World} {base g g' cap n : Nat} {v u ut us : Value} {x : S27} {inner : List Value} (hil : inner.length = n * 7) (hgb : g < base) (hgp : g < Wp.heap.size) (hB : Wp.heap[g]? = some (.cells #[v, u] 126 (0, 0)))
    (hvb : ∀ k, v.ownBlock = some k → base ≤ k) (hbp : base ≤ Wp.heap.size) (hown : W3.ownsRow base 27 7 (.slice (some ⟨g', 0, none⟩) (n + 1) cap) (n + 1) (inner ++ [.int .u8 0, .string ⟨#[]⟩, .bool false, .string ⟨#[]⟩, .slice none 0 0, .int .i64 0, .slice none 0 0])) (hgr : Wp.grownBy W3 v.ownBlock) (hat : v.ownBlock = some g' ∨ g' = Wp.heap.size) : NtW Wp base g g' cap n v u ut us x inner (((((((((W3).setCell ⟨g', n * 7, none⟩ (.int .u8 x.f0)).setCell ⟨g', n * 7 + 1, none⟩ (.string x.f1)).setCell ⟨g', n * 7 + 2, none⟩ (.bool x.f2.f0)).setCell ⟨g', n * 7 + 3, none⟩ (.string x.f2.f1)).setCell ⟨g', n * 7 + 4, none⟩ (ut)).setCell ⟨g', n * 7 + 5, none⟩ (.int .i64 x.f3)).setCell ⟨g', n * 7 + 6, none⟩ (us)).setCell ⟨g, 0, none⟩ (.slice (some ⟨g', 0, none⟩) (n + 1) cap)) := by
  obtain ⟨⟨hB3, hg'⟩, hb3, hk3⟩ := Nt_after (ut := ut) (us := us) (x := x) hil hgb hgp hB hvb hbp hown hgr hat
  have hne : g ≠ g' := by omega
  have hsl : ∀ k, (Value.slice (some ⟨g', 0, none⟩) (n + 1) cap).ownBlock = some k → g' = k := fun k hk => by simpa [Value.ownBlock] using hk
  have hkk : ∀ k, some g' = some k → g ≤ k := fun k hk => by
    have := Option.some.inj hk
    omega
  obtain ⟨h1, h2⟩ := own_stored7 (.int .u8 x.f0) (.string x.f1) (.bool x.f2.f0) (.string x.f2.f1) (ut) (.int .i64 x.f3) (us) hil hown
  have hB4 := (h2.block g (blk_lt hB3) (fun e => hne (Option.some.inj e))).trans hB3
  refine ⟨own_move h1 (fun k hk => Below.heap_setCell _ _ _ k (by have := hsl k hk; dsimp only; omega)), fun k hk hkg hn => ?_, blk_put hB4 0 _ rfl, (hb3.grown h2 (by have := hb3.size; omega) hkk).setCell (Nat.le_refl _) _⟩
  obtain ⟨hkg', h⟩ := hk3 k hk hkg hn
  rw [Below.heap_setCell _ _ _ k hkg]
  exact (h2.block k (Nat.lt_of_lt_of_le hk hb3.size) (fun e => hkg' (Option.some.inj e))).trans h
theorem Nt_wb {Wp W3 : World} {base g g' cap n : Nat} {v u ut us : Value} {x : S27} {inner : List Value} (hil : inner.length = n * 7) (hgb : g < base) (hgp : g < Wp.heap.size) (hB : Wp.heap[g]? = some (.cells #[v, u] 126 (0, 0)))
    (hvb : ∀ k, v.ownBlock = some k → base ≤ k) (hbp : base ≤ Wp.heap.size) (hown : W3.ownsRow base 27 7 (.slice (some ⟨g', 0, none⟩) (n + 1) cap) (n + 1) (inner ++ [.int .u8 0, .string ⟨#[]⟩, .bool false, .string ⟨#[]⟩, .slice none 0 0, .int .i64 0, .slice none 0 0])) (hgr : Wp.grownBy W3 v.ownBlock) (hat : v.ownBlock = some g' ∨ g' = Wp.heap.size) : NtW Wp base g g' cap n v u ut us x inner (((((((((W3.setCell ⟨g, 0, none⟩ (.slice (some ⟨g', 0, none⟩) (n + 1) cap))).setCell ⟨g', n * 7, none⟩ (.int .u8 x.f0)).setCell ⟨g', n * 7 + 1, none⟩ (.string x.f1)).setCell ⟨g', n * 7 + 2, none⟩ (.bool x.f2.f0)).setCell ⟨g', n * 7 + 3, none⟩ (.string x.f2.f1)).setCell ⟨g', n * 7 + 4, none⟩ (ut)).setCell ⟨g', n * 7 + 5, none⟩ (.int .i64 x.f3)).setCell ⟨g', n * 7 + 6, none⟩ (us)) := by
  obtain ⟨⟨hB3, hg'⟩, hb3, hk3⟩ := Nt_after (ut := ut) (us := us) (x := x) hil hgb hgp hB hvb hbp hown hgr hat
  have hne : g ≠ g' := by omega
  have hsl : ∀ k, (Value.slice (some ⟨g', 0, none⟩) (n + 1) cap).ownBlock = some k → g' = k := fun k hk => by simpa [Value.ownBlock] using hk
  have hkk : ∀ k, some g' = some k → g ≤ k := fun k hk => by
    have := Option.some.inj hk
    omega
  have hown' := own_move (w1 := W3.setCell ⟨g, 0, none⟩ (.slice (some ⟨g', 0, none⟩) (n + 1) cap)) hown (fun k hk => Below.heap_setCell _ _ _ k (by have := hsl k hk; dsimp only; omega))
  have hB4 : (W3.setCell ⟨g, 0, none⟩ (.slice (some ⟨g', 0, none⟩) (n + 1) cap)).heap[g]? = some (.cells #[(.slice (some ⟨g', 0, none⟩) (n + 1) cap), u] 126 (0, 0)) := blk_put hB3 0 _ rfl
  have hb4 : Below g Wp (W3.setCell ⟨g, 0, none⟩ (.slice (some ⟨g', 0, none⟩) (n + 1) cap)) := hb3.setCell (Nat.le_refl _) _
  obtain ⟨h1, h2⟩ := own_stored7 (.int .u8 x.f0) (.string x.f1) (.bool x.f2.f0) (.string x.f2.f1) (ut) (.int .i64 x.f3) (us) hil hown'
  refine ⟨h1, fun k hk hkg hn => ?_, (h2.block g (blk_lt hB4) (fun e => hne (Option.some.inj e))).trans hB4, hb4.grown h2 (by have := hb4.size; omega) hkk⟩
  obtain ⟨hkg', h⟩ := hk3 k hk hkg hn
  refine (h2.block k (Nat.lt_of_lt_of_le hk hb4.size) (fun e => hkg' (Option.some.inj e))).trans ?_
  rw [Below.heap_setCell _ _ _ k hkg]
  exact h
theorem Nt_push {Wb Wp W5 : World} {base g g' cap : Nat} {v u ut us : Value} {vs : List S27} {ts : List ByteArray} {x : S27} {inner : List Value} {tsf ssf : Nat → Value} (hgb : g < base) (hbs : base ≤ Wb.heap.size)
    (hB : NtB Wb g v u) (hrow : Wb.ownsRow base 27 7 v vs.length inner) (hel : ∀ j, j < vs.length → inner[j * 7]? = some (.int .u8 (rd_T27 vs (j : Int)).f0) ∧ inner[j * 7 + 1]? = some (.string (rd_T27 vs (j : Int)).f1) ∧ inner[j * 7 + 2]? = some (.bool (rd_T27 vs (j : Int)).f2.f0) ∧ inner[j * 7 + 3]? = some (.string (rd_T27 vs (j : Int)).f2.f1) ∧ inner[j * 7 + 4]? = some (tsf j) ∧ inner[j * 7 + 5]? = some (.int .i64 (rd_T27 vs (j : Int)).f3) ∧ inner[j * 7 + 6]? = some (ssf j) ∧ WT Wb (fun k => base ≤ k ∧ some k ≠ v.ownBlock) (tsf j) (rd_T27 vs (j : Int)).f2.f2 ∧ WTM Wb (fun k => base ≤ k ∧ some k ≠ v.ownBlock) (ssf j) (rd_T27 vs (j : Int)).f4) (hU : StrR Wb base u ts) (hb : Below Wb.heap.size Wb Wp)
    (hut : WT Wp (fun k => Wb.heap.size ≤ k) ut x.f2.f2) (hus : WTM Wp (fun k => Wb.heap.size ≤ k) us x.f4) (hat : v.ownBlock = some g' ∨ g' = Wp.heap.size) (h : NtW Wp base g g' cap vs.length v u ut us x inner W5) :
    NtS base g (vs ++ [x]) ts W5 ∧ NtK g Wb W5 := by
  obtain ⟨h1, h2, h3, h4⟩ := h
  have hvl : ∀ k, v.ownBlock = some k → k < Wb.heap.size := fun k hk => own_lt hrow k hk
  have hpk : ∀ k, Wb.heap.size ≤ k → base ≤ k ∧ some k ≠ v.ownBlock := fun k hk => ⟨by omega, fun e => by have := hvl k e.symm; omega⟩
  have hR := RowWM.next (x := x) (own_later hrow hb) (fun j hj => by
    obtain ⟨a0, a1, a2, a3, a4, a5, a6, a7, a8⟩ := hel j hj
    exact ⟨a0, a1, a2, a3, a4, a5, a6, a7.later hb, a8.later hb⟩) (hut.mono hpk) (hus.mono hpk) h1 (fun k hk hlt hn => h2 k hlt (by omega) hn) hat
  have hub : ∀ k, u.ownBlock = some k → base ≤ k ∧ k < Wb.heap.size := fun k hk => by
    obtain ⟨_, _, ho, _⟩ := hU
    exact ⟨own_base ho k hk, own_lt ho k hk⟩
  have hne : ∀ k, u.ownBlock = some k → some k ≠ v.ownBlock := fun k hk e => by
    obtain ⟨_, _, ho, _⟩ := hU
    obtain ⟨c1, e1⟩ := own_typed ho k hk
    obtain ⟨c2, e2⟩ := own_typed hrow k e.symm
    rw [e1] at e2
    injection e2 with e2
    injection e2 with _ e2
    exact absurd e2 (by decide)
  refine ⟨⟨_, u, h3, by simpa using hR, Kd.R_mono (Kd.R_step (Kd.R_tight (by rfl) (Kd.R_below hU hb)) (fun k hk hlt => h2 k hlt (by have := hub k hk.symm; omega) (hne k hk.symm))) (fun _ _ => trivial)⟩, ⟨(hb.mono (Nat.le_of_lt hB.lt)).trans h4, fun k hk hkg hn => ?_, fun k hk => ?_⟩⟩
  · exact (h2 k (Nat.lt_of_lt_of_le hk hb.size) hkg (fun e => hn ⟨v, u, hB, .inl e.symm⟩)).trans (hb.block k hk)
  · obtain ⟨v2, u2, h6, h7⟩ := hk
    obtain ⟨rfl, rfl⟩ := NtB.inj h3 h6
    rcases h7 with h7 | h7
    · have hkg : g' = k := by simpa [Value.ownBlock] using h7
      subst hkg
      rcases hat with h | h
      · exact .inl ⟨v, u2, hB, .inl h⟩
      · exact .inr (by have := hb.size; omega)
    · exact .inl ⟨v, u2, hB, .inr h7⟩
end Go.Proofs.Ytecplbgdalchdaa.Q
