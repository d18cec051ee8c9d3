/- Proved here: the contracts of types.Fun, types.Bool and of the laws' v. Conditions: those that each theorem names. -/
import Derived.Test.YtgnklkmifcmlhaaHTwin
namespace Go.Proofs.Ytgnklkmifcmlhaa.Q
open Go.RowKit Go.Shelf Go.Proofs.YtgnklkmifcmlhaaW.PrintWords Go.Proofs.YtgnklkmifcmlhaaW.PrintMore
set_option linter.unusedVariables false
set_option linter.unusedSimpArgs false
attribute [local go_sem] Oper.semAt_some

def funN : ByteArray := ⟨#[102, 117, 110]⟩
def boolN : ByteArray := ⟨#[98, 111, 111, 108]⟩
theorem below_three {w : World} (o o' o'' : Obj) : Below w.heap.size w (((w.alloc o).alloc o').alloc o'') := (below_two o o').alloc (by simp; omega) _
theorem blk_third {w : World} (o o' o'' : Obj) : (((w.alloc o).alloc o').alloc o'').heap[w.heap.size + 2]? = some o'' := by have := blk_new ((w.alloc o).alloc o') o''; simpa using this
theorem WT_two {w : World} {ok : Nat → Prop} {g : Nat} {x y : S25} {u v : Value} (hg : ok g) (hb : w.heap[g]? = some (.cells #[.bool x.f0, .string x.f1, u, .bool y.f0, .string y.f1, v] 25 (0, 0))) (hu : WT w ok u x.f2) (hv : WT w ok v y.f2) :
    WT w ok (.slice (some ⟨g, 0, none⟩) 2 2) [x, y] := by
  refine WT.row g 2 _ [x, y] (fun j => if j = 0 then u else v) (by simp) hg hb (by simp) (by omega) rfl ?_ ?_ ?_ ?_
  all_goals intro j hj
  all_goals (obtain rfl | rfl : j = 0 ∨ j = 1 := by simp at hj; omega)
  all_goals first | rfl | exact hu | exact hv

set_option maxHeartbeats 2000000 in
set_option maxRecDepth 100000 in
theorem bool_calls (w : World) : Calls Try.prog 38 #[] w fun e w' => e = .returned (.agg #[.bool false, .string boolN, .slice none 0 0]) ∧ Below w.heap.size w w' := by
  have BK := blk_new w (.cells #[.bool false, .string ⟨#[]⟩, .slice none 0 0] 25)
  have hb0 := below_one (w := w) (.cells #[.bool false, .string ⟨#[]⟩, .slice none 0 0] 25)
  obtain ⟨x0, x1, x2, x3, x4, x5, x6⟩ := box3s BK
  go_enter Try.func38, Try.ntmps38
  go_wp2_with fail
  refine bodyPost_ret (results_cell_row rfl _ _ w.heap.size 25 #[.bool false, .string boolN, .slice none 0 0] (0, 0) _ rfl (blk_new w _) Try.underlying25 rfl (by kernel_rfl)) rfl ?_
  exact ⟨rfl, below_one _⟩
set_option maxHeartbeats 2000000 in
set_option maxRecDepth 100000 in
theorem v_calls (n : ByteArray) (w : World) : Calls Try.prog 43 #[.string n] w fun e w' => e = .returned (.agg #[.bool true, .string n, .slice none 0 0]) ∧ Below w.heap.size w w' := by
  have BK := blk_new w (.cells #[.bool false, .string ⟨#[]⟩, .slice none 0 0] 25)
  have hb0 := below_one (w := w) (.cells #[.bool false, .string ⟨#[]⟩, .slice none 0 0] 25)
  obtain ⟨x0, x1, x2, x3, x4, x5, x6⟩ := box3s BK
  go_enter Try.func43, Try.ntmps43
  go_wp2_with fail
  refine bodyPost_ret (results_cell_row rfl _ _ w.heap.size 25 #[.bool true, .string n, .slice none 0 0] (0, 0) _ rfl (blk_new w _) Try.underlying25 rfl (by kernel_rfl)) rfl ?_
  exact ⟨rfl, below_one _⟩
abbrev FunS (w : World) (x y : S25) (A : Option Addr) (c : Nat) (B : Option Addr) (d : Nat) (W : World) : Prop :=
  W.cell? ⟨w.heap.size, 0, none⟩ = some (.bool x.f0) ∧ W.cell? ⟨w.heap.size, 1, none⟩ = some (.string x.f1) ∧ W.cell? ⟨w.heap.size, 2, none⟩ = some (.slice A x.f2.length c) ∧
    W.cell? ⟨w.heap.size + 1, 0, none⟩ = some (.bool y.f0) ∧ W.cell? ⟨w.heap.size + 1, 1, none⟩ = some (.string y.f1) ∧ W.cell? ⟨w.heap.size + 1, 2, none⟩ = some (.slice B y.f2.length d) ∧ Below w.heap.size w W
theorem FunS.step {w : World} {x y : S25} {A : Option Addr} {c : Nat} {B : Option Addr} {d : Nat} {W W' : World} (h : FunS w x y A c B d W) (hb : Below W.heap.size W W') : FunS w x y A c B d W' :=
  ⟨pw_cell_below hb h.1, pw_cell_below hb h.2.1, pw_cell_below hb h.2.2.1, pw_cell_below hb h.2.2.2.1, pw_cell_below hb h.2.2.2.2.1, pw_cell_below hb h.2.2.2.2.2.1, below_step h.2.2.2.2.2.2 hb⟩
theorem FunS.put {w : World} {x y : S25} {A : Option Addr} {c : Nat} {B : Option Addr} {d : Nat} {W : World} (h : FunS w x y A c B d W) (p q r : Value) : FunS w x y A c B d (((W.setCell ⟨w.heap.size + 2, 0, none⟩ p).setCell ⟨w.heap.size + 2, 1, none⟩ q).setCell ⟨w.heap.size + 2, 2, none⟩ r) := by
  have n0 : w.heap.size ≠ w.heap.size + 2 := by omega
  have n1 : w.heap.size + 1 ≠ w.heap.size + 2 := by omega
  obtain ⟨h0, h1, h2, h3, h4, h5, h6⟩ := h
  exact ⟨cell_away (cell_away (cell_away h0 n0) n0) n0, cell_away (cell_away (cell_away h1 n0) n0) n0, cell_away (cell_away (cell_away h2 n0) n0) n0, cell_away (cell_away (cell_away h3 n1) n1) n1, cell_away (cell_away (cell_away h4 n1) n1) n1, cell_away (cell_away (cell_away h5 n1) n1) n1, ((h6.setCell (by simp) _).setCell (by simp) _).setCell (by simp) _⟩
set_option maxHeartbeats 2000000 in
set_option maxRecDepth 100000 in
theorem fun_calls (x y : S25) (A : Option Addr) (c : Nat) (B : Option Addr) (d : Nat) (w : World) (hA : k25.C w A x.f2.length x.f2) (hc : x.f2.length ≤ c) (hB : k25.C w B y.f2.length y.f2) (hd : y.f2.length ≤ d) (hx : szT x ≤ 5864062014805) (hy : szT y ≤ 5864062014805) :
    Calls Try.prog 36 #[.agg #[.bool x.f0, .string x.f1, .slice A x.f2.length c], .agg #[.bool y.f0, .string y.f1, .slice B y.f2.length d]] w fun e w' => ∃ v, e = .returned (.agg #[.bool false, .string funN, v]) ∧ WT w' (fun k => w.heap.size ≤ k) v [x, y] ∧ Below w.heap.size w w' := by
  have hb0 := below_three (w := w) (.cells #[.bool x.f0, .string x.f1, .slice A x.f2.length c] 25) (.cells #[.bool y.f0, .string y.f1, .slice B y.f2.length d] 25) (.cells #[.bool false, .string ⟨#[]⟩, .slice none 0 0] 25)
  have B0 := blk_alloc (blk_mid (w := w) (.cells #[.bool x.f0, .string x.f1, .slice A x.f2.length c] 25) (.cells #[.bool y.f0, .string y.f1, .slice B y.f2.length d] 25)) (.cells #[.bool false, .string ⟨#[]⟩, .slice none 0 0] 25)
  have C0 := blk_alloc (blk_top (w := w) (.cells #[.bool x.f0, .string x.f1, .slice A x.f2.length c] 25) (.cells #[.bool y.f0, .string y.f1, .slice B y.f2.length d] 25)) (.cells #[.bool false, .string ⟨#[]⟩, .slice none 0 0] 25)
  have D0 := blk_third (w := w) (.cells #[.bool x.f0, .string x.f1, .slice A x.f2.length c] 25) (.cells #[.bool y.f0, .string y.f1, .slice B y.f2.length d] 25) (.cells #[.bool false, .string ⟨#[]⟩, .slice none 0 0] 25)
  have hta := fun W (hw : FunS w x y A c B d W) => (twin_calls (szT x) x A c W (Nat.le_refl _) hx (Kd.C_below hA hw.2.2.2.2.2.2) hc).mono (fun _ W' h => show ∃ v, _ ∧ WT W' (fun k => W.heap.size ≤ k) v _ ∧ Below W.heap.size W W' ∧ FunS w x y A c B d W' from by obtain ⟨v, h1, h2, h3⟩ := h; exact ⟨v, h1, h2, h3, hw.step h3⟩)
  have htb := fun W (hw : FunS w x y A c B d W) => (twin_calls (szT y) y B d W (Nat.le_refl _) hy (Kd.C_below hB hw.2.2.2.2.2.2) hd).mono (fun _ W' h => show ∃ v, _ ∧ WT W' (fun k => W.heap.size ≤ k) v _ ∧ Below W.heap.size W W' ∧ FunS w x y A c B d W' from by obtain ⟨v, h1, h2, h3⟩ := h; exact ⟨v, h1, h2, h3, hw.step h3⟩)
  obtain ⟨a0, a1, a2, _, _, _, _⟩ := box3s B0
  obtain ⟨b0, b1, b2, _, _, _, _⟩ := box3s C0
  clear hA hB
  go_enter Try.func36, Try.ntmps36
  go_wp2_with fail
  obtain ⟨W0, hW0⟩ : ∃ W0, ((w.alloc (.cells #[.bool x.f0, .string x.f1, .slice A x.f2.length c] 25)).alloc (.cells #[.bool y.f0, .string y.f1, .slice B y.f2.length d] 25)).alloc (.cells #[.bool false, .string ⟨#[]⟩, .slice none 0 0] 25) = W0 := ⟨_, rfl⟩
  have hsz : W0.heap.size = w.heap.size + 3 := by rw [← hW0]; simp
  rw [hW0] at hb0 B0 C0 D0 a0 a1 a2 b0 b1 b2 ⊢
  clear hW0 B0 C0
  have hS0 : FunS w x y A c B d W0.drew := ⟨a0, a1, a2, b0, b1, b2, below_drew1 hb0⟩
  go_region_held3 (fun W => FunS w x y A c B d W)
    (first | (with_reducible exact hS0) | (with_reducible assumption) | (with_reducible exact FunS.step (by assumption) (below_one _)) | exact FunS.step (FunS.put (by with_reducible assumption) _ _ _) (below_one _))
    (first
      | (go_at_call 27; (with_reducible refine (htb _ (by with_reducible assumption)).mono ?_); rintro e w2 ⟨v2, rfl, hT2, hc2, hN⟩; have D2 := blk_below D1 hc2; obtain ⟨A2, c2, hv2, _⟩ := hT2.reads; subst hv2; have hT1' := hT1.later hc2; obtain ⟨x0, x1, x2, x3, x4, x5, x6⟩ := box3s D2)
      | (go_at_call 27; (with_reducible refine (hta _ (by with_reducible assumption)).mono ?_); rintro e w1 ⟨v1, rfl, hT1, hc1, hN⟩; have hbN := below_step (below_drew1 (Below.refl _ W0)) hc1; have D1 := blk_below D0 hbN; obtain ⟨A1, c1, hv1, _⟩ := hT1.reads; subst hv1))
  have hb2 := hN.2.2.2.2.2.2
  have z1 := hc1.size
  have z2 := hc2.size
  simp only [World.size_drew] at z1
  go_wp2
  refine bodyPost_ret (results_cell_row rfl _ _ (w.heap.size + 2) 25 #[.bool false, .string funN, .slice (some ⟨w2.heap.size, 0, none⟩) 2 2] (0, 0) _ rfl (blk_alloc (set3 D2) _) Try.underlying25 rfl (by kernel_rfl)) rfl ?_
  have hfar : ∀ {v : Value} {l : List S25} (o : Obj) (p q r : Value), WT w2 (fun k => w.heap.size + 3 ≤ k) v l → WT ((((w2.setCell ⟨w.heap.size + 2, 0, none⟩ p).setCell ⟨w.heap.size + 2, 1, none⟩ q).setCell ⟨w.heap.size + 2, 2, none⟩ r).alloc o) (fun k => w.heap.size ≤ k) v l := by
    intro v l o p q r h
    refine WT.mono ((((h.far _ _ ?_).far _ _ ?_).far _ _ ?_).later (below_one _)) (fun k hk => by omega)
    all_goals (intro k hk; show k ≠ w.heap.size + 2; omega)
  refine ⟨_, rfl, WT_two (by omega) ?_ (hfar _ _ _ _ (hT1'.mono (fun k hk => by simp at hk; omega))) (hfar _ _ _ _ (hT2.mono (fun k hk => by omega))), (((hb2.setCell (by simp; omega) _).setCell (by simp; omega) _).setCell (by simp; omega) _).alloc (by have := hb2.size; simp; omega) _⟩
  have hnew := blk_new (((w2.setCell ⟨w.heap.size + 2, 0, none⟩ (.bool false)).setCell ⟨w.heap.size + 2, 1, none⟩ (.string ⟨#[102, 117, 110]⟩)).setCell ⟨w.heap.size + 2, 2, none⟩ (.slice (some ⟨w2.heap.size, 0, none⟩) 2 2)) (.cells #[.bool x.f0, .string x.f1, .slice A1 x.f2.length c1, .bool y.f0, .string y.f1, .slice A2 y.f2.length c2] 25)
  simpa using hnew
end Go.Proofs.Ytgnklkmifcmlhaa.Q
