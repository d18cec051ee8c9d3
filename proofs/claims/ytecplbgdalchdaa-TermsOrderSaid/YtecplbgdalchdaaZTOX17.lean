/- Proved here: parts of the proof of a given statement (HRowTermsOrder): contracts of the functions that it reaches, what they answer, and in the last text the statement itself. Conditions: those that each theorem names. -/
import Derived.Test.YtecplbgdalchdaaZTOX15
import Derived.Test.YtecplbgdalchdaaZTOX16
import Derived.Test.YtecplbgdalchdaaZTOX13
import Derived.Test.YtecplbgdalchdaaZTOX7
import Derived.Test.YtecplbgdalchdaaZTOX6
import Derived.Deep.RegionHeld3
import Derived.Test.YtecplbgdalchdaaZTOX14
/- Proved here: the laws' alive returns true. Conditions: none. -/
namespace Go.Proofs.Ytecplbgdalchdaa.Q
open Go.RowKit Go.Shelf Go.Proofs.YtecplbgdalchdaaW.PrintWords Go.Proofs.YtecplbgdalchdaaW.PrintMore
set_option linter.unusedVariables false
set_option linter.unusedSimpArgs false
attribute [local go_sem] Oper.semAt_some


/-- A boxed term, and what it reads. -/
abbrev HdM (W : World) (g : Nat) (x : S27) (A : Option Addr) (c : Nat) (B : Option Addr) (d : Nat) : Prop := W.heap[g]? = some (.cells #[.int .u8 x.f0, .string x.f1, .bool x.f2.f0, .string x.f2.f1, .slice A x.f2.f2.length c, .int .i64 x.f3, .slice B x.f4.length d] 27 (0, 0)) ∧ RdM W x A c B d
theorem HdM.later {W W' : World} {g : Nat} {x : S27} {A B : Option Addr} {c d : Nat} (h : HdM W g x A c B d) (hb : Below W.heap.size W W') : HdM W' g x A c B d := ⟨blk_below h.1 hb, h.2.later hb⟩
theorem HdM.new {W : World} {x : S27} {A B : Option Addr} {c d : Nat} (h : RdM W x A c B d) : HdM (W.alloc (.cells #[.int .u8 x.f0, .string x.f1, .bool x.f2.f0, .string x.f2.f1, .slice A x.f2.f2.length c, .int .i64 x.f3, .slice B x.f4.length d] 27)) W.heap.size x A c B d := ⟨blk_new _ _, h.later (below_one _)⟩
theorem HdM.box {W : World} {g : Nat} {x : S27} {A B : Option Addr} {c d : Nat} (h : HdM W g x A c B d) : BxM W g x A c B d := box7 h.1
def nX : ByteArray := ⟨#[120]⟩
def nY : ByteArray := ⟨#[121]⟩
def nZ : ByteArray := ⟨#[122]⟩
def tBl : S24 := ⟨false, boolN, []⟩
def wantM : S27 := ⟨5, nX, tBl, 0, [⟨3, ⟨#[]⟩, ⟨false, ⟨#[]⟩, []⟩, 0, []⟩]⟩
theorem fitBl : fit tBl := fitl _ _ (by unfold okS; decide)
theorem OwM.rd {w : World} {ok : Nat → Prop} {a : Value} {x : S27} (h : OwM w ok a x) : ∃ A c B d, a = .agg #[.int .u8 x.f0, .string x.f1, .bool x.f2.f0, .string x.f2.f1, .slice A x.f2.f2.length c, .int .i64 x.f3, .slice B x.f4.length d] ∧ RdM w x A c B d := h.tr
abbrev AlM (w wk : World) (ta tb tc vz : S27) (u : S24) (ga gm ge gb gc gz gu : Nat) (Aa Ab Ac Az Ba Bb Bc Bz Au : Option Addr) (ca cb cc cz da db dc dz cu : Nat) (W : World) : Prop :=
  (BxM W ga ta Aa ca Ba da ∧ BxM W gb tb Ab cb Bb db ∧ BxM W gc tc Ac cc Bc dc ∧ BxM W gz vz Az cz Bz dz) ∧ (W.cell? ⟨gm, 0, none⟩ = some (.int .u8 5) ∧ W.cell? ⟨gm, 1, none⟩ = some (.string ⟨#[120]⟩) ∧ W.cell? ⟨gm, 2, none⟩ = some (.bool false) ∧ W.cell? ⟨gm, 3, none⟩ = some (.string boolN) ∧ W.cell? ⟨gm, 4, none⟩ = some (.slice none 0 0) ∧ W.cell? ⟨gm, 5, none⟩ = some (.int .i64 0) ∧ W.cell? ⟨gm, 6, none⟩ = some (.slice (some ⟨ge, 0, none⟩) 1 1)) ∧ (W.cell? ⟨gu, 0, none⟩ = some (.bool u.f0) ∧ W.cell? ⟨gu, 1, none⟩ = some (.string u.f1) ∧ W.cell? ⟨gu, 2, none⟩ = some (.slice Au u.f2.length cu)) ∧ Below wk.heap.size wk W ∧ Below w.heap.size w W
theorem AlM.step {w wk : World} {ta tb tc vz : S27} {u : S24} {ga gm ge gb gc gz gu : Nat} {Aa Ab Ac Az Ba Bb Bc Bz Au : Option Addr} {ca cb cc cz da db dc dz cu : Nat} {W W' : World} (h : AlM w wk ta tb tc vz u ga gm ge gb gc gz gu Aa Ab Ac Az Ba Bb Bc Bz Au ca cb cc cz da db dc dz cu W) (hb : Below W.heap.size W W') : AlM w wk ta tb tc vz u ga gm ge gb gc gz gu Aa Ab Ac Az Ba Bb Bc Bz Au ca cb cc cz da db dc dz cu W' := by
  obtain ⟨⟨h1, h2, h3, h4⟩, ⟨m0, m1, m2, m3, m4, m5, m6⟩, ⟨u0, u1, u2⟩, hk, hw⟩ := h
  exact ⟨⟨h1.step hb, h2.step hb, h3.step hb, h4.step hb⟩, ⟨pw_cell_below hb m0, pw_cell_below hb m1, pw_cell_below hb m2, pw_cell_below hb m3, pw_cell_below hb m4, pw_cell_below hb m5, pw_cell_below hb m6⟩, ⟨pw_cell_below hb u0, pw_cell_below hb u1, pw_cell_below hb u2⟩, below_step hk hb, below_step hw hb⟩
set_option maxHeartbeats 8000000 in
set_option maxRecDepth 100000 in
theorem aliveM_of (w : World) (vx vy vz ta tb tc : S27) (u : S24) (hx : leafF 1 nX tBl = (vx, 0)) (hy : leafF 1 nY tBl = (vy, 0)) (hz : leafF 1 nZ tBl = (vz, 0)) (ha : lamF vx vx = (ta, 0)) (hb : lamF vy vy = (tb, 0)) (hu : tyoM ta = (u, 0)) (hcu : chkM ta = 0) (hc : opnF ta vz = (tc, 0))
    (fx : fitM vx) (fy : fitM vy) (fz : fitM vz) (fa : fitM ta) (he : exM ta wantM = true) (hs : (cmpM ta tb == 0) = true) (ht : (cmpT u ⟨false, funN, [tBl, tBl]⟩ == 0) = true) (hs2 : (cmpM tc vz == 0) = true) :
    Calls Try.prog 15 #[] w fun e w' => e = .returned (.bool true) ∧ Below w.heap.size w w' := by
  obtain ⟨ke, hke⟩ := (rexact_ev ta fa wantM).at
  rw [he] at hke
  have qx : ∀ W, Calls Try.prog 47 #[.string ⟨#[120]⟩, .agg #[.bool false, .string boolN, .slice none 0 0]] W (PairPost W (vx, 0)) := fun W => hx ▸ var_tcalls nX tBl (by unfold okS nX; decide) fitBl _ W (Tr.leaf false boolN W)
  have qy : ∀ W, Calls Try.prog 47 #[.string ⟨#[121]⟩, .agg #[.bool false, .string boolN, .slice none 0 0]] W (PairPost W (vy, 0)) := fun W => hy ▸ var_tcalls nY tBl (by unfold okS nY; decide) fitBl _ W (Tr.leaf false boolN W)
  have qz : ∀ W, Calls Try.prog 47 #[.string ⟨#[122]⟩, .agg #[.bool false, .string boolN, .slice none 0 0]] W (PairPost W (vz, 0)) := fun W => hz ▸ var_tcalls nZ tBl (by unfold okS nZ; decide) fitBl _ W (Tr.leaf false boolN W)
  have qa : ∀ A c B d W, RdM W vx A c B d → Calls Try.prog 44 #[.agg #[.int .u8 vx.f0, .string vx.f1, .bool vx.f2.f0, .string vx.f2.f1, .slice A vx.f2.f2.length c, .int .i64 vx.f3, .slice B vx.f4.length d], .agg #[.int .u8 vx.f0, .string vx.f1, .bool vx.f2.f0, .string vx.f2.f1, .slice A vx.f2.f2.length c, .int .i64 vx.f3, .slice B vx.f4.length d]] W (PairPost W (ta, 0)) := fun A c B d W h => ha ▸ lambda_tr vx vx fx fx _ _ W ⟨A, c, B, d, rfl, h⟩ ⟨A, c, B, d, rfl, h⟩
  have qb : ∀ A c B d W, RdM W vy A c B d → Calls Try.prog 44 #[.agg #[.int .u8 vy.f0, .string vy.f1, .bool vy.f2.f0, .string vy.f2.f1, .slice A vy.f2.f2.length c, .int .i64 vy.f3, .slice B vy.f4.length d], .agg #[.int .u8 vy.f0, .string vy.f1, .bool vy.f2.f0, .string vy.f2.f1, .slice A vy.f2.f2.length c, .int .i64 vy.f3, .slice B vy.f4.length d]] W (PairPost W (tb, 0)) := fun A c B d W h => hb ▸ lambda_tr vy vy fy fy _ _ W ⟨A, c, B, d, rfl, h⟩ ⟨A, c, B, d, rfl, h⟩
  have qu : ∀ A c B d W, RdM W ta A c B d → Calls Try.prog 20 #[.agg #[.int .u8 ta.f0, .string ta.f1, .bool ta.f2.f0, .string ta.f2.f1, .slice A ta.f2.f2.length c, .int .i64 ta.f3, .slice B ta.f4.length d]] W fun e w' => ∃ r, e = .returned (.tuple #[r, .int .i64 0]) ∧ Tr w' r u ∧ Below W.heap.size W w' := by
    intro A c B d W h
    have h2 := tyoM_tr ta fa _ W ⟨A, c, B, d, rfl, h⟩
    rw [hu, hcu] at h2
    exact h2
  have qc : ∀ A c B d A' c' B' d' W, RdM W ta A c B d → RdM W vz A' c' B' d' → Calls Try.prog 45 #[.agg #[.int .u8 ta.f0, .string ta.f1, .bool ta.f2.f0, .string ta.f2.f1, .slice A ta.f2.f2.length c, .int .i64 ta.f3, .slice B ta.f4.length d], .agg #[.int .u8 vz.f0, .string vz.f1, .bool vz.f2.f0, .string vz.f2.f1, .slice A' vz.f2.f2.length c', .int .i64 vz.f3, .slice B' vz.f4.length d']] W (PairPost W (tc, 0)) := fun A c B d A' c' B' d' W h h' => hc ▸ open_tr ta vz fa fz _ _ W ⟨A, c, B, d, rfl, h⟩ ⟨A', c', B', d', rfl, h'⟩
  have hbw : Below w.heap.size w w := Below.refl _ w
  clear hx hy hz ha hb hu hcu hc fx fy fz fa he
  go_enter Try.func15, Try.ntmps15
  go_wp2_with (first
    | (go_at_call 47; (with_reducible refine (qx _).mono ?_); rintro e Wvx ⟨r, rfl, hO, hc⟩; obtain ⟨Ax, cx, Bx, dx, rfl, hR⟩ := hO.rd; dsimp only at hR ⊢; (try have HX := HX.later hc); (try have HY := HY.later hc); (try have HZ := HZ.later hc); (try have HA := HA.later hc); (try have HB := HB.later hc); (try (have BU := blk_below BU hc; have HU := Tr.later HU hc)); (try have HC := HC.later hc); have hbw := below_step hbw hc; have hc := below_one (w := Wvx) (.cells #[.int .u8 vx.f0, .string vx.f1, .bool vx.f2.f0, .string vx.f2.f1, .slice Ax vx.f2.f2.length cx, .int .i64 vx.f3, .slice Bx vx.f4.length dx] 27); (try have HX := HX.later hc); (try have HY := HY.later hc); (try have HZ := HZ.later hc); (try have HA := HA.later hc); (try have HB := HB.later hc); (try (have BU := blk_below BU hc; have HU := Tr.later HU hc)); (try have HC := HC.later hc); have hbw := below_step hbw hc; have HX := HdM.new (x := vx) hR; (try obtain ⟨x0, x1, x2, x3, x4, x5, x6⟩ := HX.box); (try obtain ⟨y0, y1, y2, y3, y4, y5, y6⟩ := HY.box); (try obtain ⟨z0, z1, z2, z3, z4, z5, z6⟩ := HZ.box); (try obtain ⟨a0, a1, a2, a3, a4, a5, a6⟩ := HA.box))
    | (go_at_call 47; (with_reducible refine (qy _).mono ?_); rintro e Wvy ⟨r, rfl, hO, hc⟩; obtain ⟨Ay, cy, By, dy, rfl, hR⟩ := hO.rd; dsimp only at hR ⊢; (try have HX := HX.later hc); (try have HY := HY.later hc); (try have HZ := HZ.later hc); (try have HA := HA.later hc); (try have HB := HB.later hc); (try (have BU := blk_below BU hc; have HU := Tr.later HU hc)); (try have HC := HC.later hc); have hbw := below_step hbw hc; have hc := below_one (w := Wvy) (.cells #[.int .u8 vy.f0, .string vy.f1, .bool vy.f2.f0, .string vy.f2.f1, .slice Ay vy.f2.f2.length cy, .int .i64 vy.f3, .slice By vy.f4.length dy] 27); (try have HX := HX.later hc); (try have HY := HY.later hc); (try have HZ := HZ.later hc); (try have HA := HA.later hc); (try have HB := HB.later hc); (try (have BU := blk_below BU hc; have HU := Tr.later HU hc)); (try have HC := HC.later hc); have hbw := below_step hbw hc; have HY := HdM.new (x := vy) hR; (try obtain ⟨x0, x1, x2, x3, x4, x5, x6⟩ := HX.box); (try obtain ⟨y0, y1, y2, y3, y4, y5, y6⟩ := HY.box); (try obtain ⟨z0, z1, z2, z3, z4, z5, z6⟩ := HZ.box); (try obtain ⟨a0, a1, a2, a3, a4, a5, a6⟩ := HA.box))
    | (go_at_call 47; (with_reducible refine (qz _).mono ?_); rintro e Wvz ⟨r, rfl, hO, hc⟩; obtain ⟨Az, cz, Bz, dz, rfl, hR⟩ := hO.rd; dsimp only at hR ⊢; (try have HX := HX.later hc); (try have HY := HY.later hc); (try have HZ := HZ.later hc); (try have HA := HA.later hc); (try have HB := HB.later hc); (try (have BU := blk_below BU hc; have HU := Tr.later HU hc)); (try have HC := HC.later hc); have hbw := below_step hbw hc; have hc := below_one (w := Wvz) (.cells #[.int .u8 vz.f0, .string vz.f1, .bool vz.f2.f0, .string vz.f2.f1, .slice Az vz.f2.f2.length cz, .int .i64 vz.f3, .slice Bz vz.f4.length dz] 27); (try have HX := HX.later hc); (try have HY := HY.later hc); (try have HZ := HZ.later hc); (try have HA := HA.later hc); (try have HB := HB.later hc); (try (have BU := blk_below BU hc; have HU := Tr.later HU hc)); (try have HC := HC.later hc); have hbw := below_step hbw hc; have HZ := HdM.new (x := vz) hR; (try obtain ⟨x0, x1, x2, x3, x4, x5, x6⟩ := HX.box); (try obtain ⟨y0, y1, y2, y3, y4, y5, y6⟩ := HY.box); (try obtain ⟨z0, z1, z2, z3, z4, z5, z6⟩ := HZ.box); (try obtain ⟨a0, a1, a2, a3, a4, a5, a6⟩ := HA.box))
    | (go_at_call 44; (with_reducible refine (qa _ _ _ _ _ HX.2).mono ?_); rintro e Wta ⟨r, rfl, hO, hc⟩; obtain ⟨Aa, ca, Ba, da, rfl, hR⟩ := hO.rd; dsimp only at hR ⊢; (try have HX := HX.later hc); (try have HY := HY.later hc); (try have HZ := HZ.later hc); (try have HA := HA.later hc); (try have HB := HB.later hc); (try (have BU := blk_below BU hc; have HU := Tr.later HU hc)); (try have HC := HC.later hc); have hbw := below_step hbw hc; have hc := below_one (w := Wta) (.cells #[.int .u8 ta.f0, .string ta.f1, .bool ta.f2.f0, .string ta.f2.f1, .slice Aa ta.f2.f2.length ca, .int .i64 ta.f3, .slice Ba ta.f4.length da] 27); (try have HX := HX.later hc); (try have HY := HY.later hc); (try have HZ := HZ.later hc); (try have HA := HA.later hc); (try have HB := HB.later hc); (try (have BU := blk_below BU hc; have HU := Tr.later HU hc)); (try have HC := HC.later hc); have hbw := below_step hbw hc; have HA := HdM.new (x := ta) hR; (try obtain ⟨x0, x1, x2, x3, x4, x5, x6⟩ := HX.box); (try obtain ⟨y0, y1, y2, y3, y4, y5, y6⟩ := HY.box); (try obtain ⟨z0, z1, z2, z3, z4, z5, z6⟩ := HZ.box); (try obtain ⟨a0, a1, a2, a3, a4, a5, a6⟩ := HA.box))
    | (go_at_call 44; (with_reducible refine (qb _ _ _ _ _ HY.2).mono ?_); rintro e Wtb ⟨r, rfl, hO, hc⟩; obtain ⟨Ab, cb, Bb, db, rfl, hR⟩ := hO.rd; dsimp only at hR ⊢; (try have HX := HX.later hc); (try have HY := HY.later hc); (try have HZ := HZ.later hc); (try have HA := HA.later hc); (try have HB := HB.later hc); (try (have BU := blk_below BU hc; have HU := Tr.later HU hc)); (try have HC := HC.later hc); have hbw := below_step hbw hc; have hc := below_one (w := Wtb) (.cells #[.int .u8 tb.f0, .string tb.f1, .bool tb.f2.f0, .string tb.f2.f1, .slice Ab tb.f2.f2.length cb, .int .i64 tb.f3, .slice Bb tb.f4.length db] 27); (try have HX := HX.later hc); (try have HY := HY.later hc); (try have HZ := HZ.later hc); (try have HA := HA.later hc); (try have HB := HB.later hc); (try (have BU := blk_below BU hc; have HU := Tr.later HU hc)); (try have HC := HC.later hc); have hbw := below_step hbw hc; have HB := HdM.new (x := tb) hR; (try obtain ⟨x0, x1, x2, x3, x4, x5, x6⟩ := HX.box); (try obtain ⟨y0, y1, y2, y3, y4, y5, y6⟩ := HY.box); (try obtain ⟨z0, z1, z2, z3, z4, z5, z6⟩ := HZ.box); (try obtain ⟨a0, a1, a2, a3, a4, a5, a6⟩ := HA.box))
    | (go_at_call 20; (with_reducible refine (qu _ _ _ _ _ HA.2).mono ?_); rintro e Wu ⟨r, rfl, hO, hc⟩; obtain ⟨Au, cu, rfl, hlu, hCu⟩ := hO; dsimp only at hlu hCu ⊢; (try have HX := HX.later hc); (try have HY := HY.later hc); (try have HZ := HZ.later hc); (try have HA := HA.later hc); (try have HB := HB.later hc); (try (have BU := blk_below BU hc; have HU := Tr.later HU hc)); (try have HC := HC.later hc); have hbw := below_step hbw hc; have hc := below_one (w := Wu) (.cells #[.bool u.f0, .string u.f1, .slice Au u.f2.length cu] 24); (try have HX := HX.later hc); (try have HY := HY.later hc); (try have HZ := HZ.later hc); (try have HA := HA.later hc); (try have HB := HB.later hc); (try (have BU := blk_below BU hc; have HU := Tr.later HU hc)); (try have HC := HC.later hc); have hbw := below_step hbw hc; have BU := blk_new Wu (.cells #[.bool u.f0, .string u.f1, .slice Au u.f2.length cu] 24); have HU : Tr (Wu.alloc (.cells #[.bool u.f0, .string u.f1, .slice Au u.f2.length cu] 24)) (.agg #[.bool u.f0, .string u.f1, .slice Au u.f2.length cu]) u := Tr.later ⟨Au, cu, rfl, hlu, hCu⟩ hc; (try obtain ⟨x0, x1, x2, x3, x4, x5, x6⟩ := HX.box); (try obtain ⟨y0, y1, y2, y3, y4, y5, y6⟩ := HY.box); (try obtain ⟨z0, z1, z2, z3, z4, z5, z6⟩ := HZ.box); (try obtain ⟨a0, a1, a2, a3, a4, a5, a6⟩ := HA.box))
    | (go_at_call 45; (with_reducible refine (qc _ _ _ _ _ _ _ _ _ HA.2 HZ.2).mono ?_); rintro e Wtc ⟨r, rfl, hO, hc⟩; obtain ⟨Ac, cc, Bc, dc, rfl, hR⟩ := hO.rd; dsimp only at hR ⊢; (try have HX := HX.later hc); (try have HY := HY.later hc); (try have HZ := HZ.later hc); (try have HA := HA.later hc); (try have HB := HB.later hc); (try (have BU := blk_below BU hc; have HU := Tr.later HU hc)); (try have HC := HC.later hc); have hbw := below_step hbw hc; have hc := below_one (w := Wtc) (.cells #[.int .u8 tc.f0, .string tc.f1, .bool tc.f2.f0, .string tc.f2.f1, .slice Ac tc.f2.f2.length cc, .int .i64 tc.f3, .slice Bc tc.f4.length dc] 27); (try have HX := HX.later hc); (try have HY := HY.later hc); (try have HZ := HZ.later hc); (try have HA := HA.later hc); (try have HB := HB.later hc); (try (have BU := blk_below BU hc; have HU := Tr.later HU hc)); (try have HC := HC.later hc); have hbw := below_step hbw hc; have HC := HdM.new (x := tc) hR; (try obtain ⟨x0, x1, x2, x3, x4, x5, x6⟩ := HX.box); (try obtain ⟨y0, y1, y2, y3, y4, y5, y6⟩ := HY.box); (try obtain ⟨z0, z1, z2, z3, z4, z5, z6⟩ := HZ.box); (try obtain ⟨a0, a1, a2, a3, a4, a5, a6⟩ := HA.box))
    | (go_at_call 41; (with_reducible refine (bool_calls _).mono ?_); rintro e Wq ⟨rfl, hc⟩; (try have HX := HX.later hc); (try have HY := HY.later hc); (try have HZ := HZ.later hc); (try have HA := HA.later hc); (try have HB := HB.later hc); (try (have BU := blk_below BU hc; have HU := Tr.later HU hc)); (try have HC := HC.later hc); have hbw := below_step hbw hc; (try obtain ⟨x0, x1, x2, x3, x4, x5, x6⟩ := HX.box); (try obtain ⟨y0, y1, y2, y3, y4, y5, y6⟩ := HY.box); (try obtain ⟨z0, z1, z2, z3, z4, z5, z6⟩ := HZ.box); (try obtain ⟨a0, a1, a2, a3, a4, a5, a6⟩ := HA.box)))
  have hc := below_two (w := Wq) (.cells #[.int .u8 3, .string ⟨#[]⟩, .bool false, .string ⟨#[]⟩, .slice none 0 0, .int .i64 0, .slice none 0 0] 27) (.cells #[.int .u8 5, .string ⟨#[120]⟩, .bool false, .string boolN, .slice none 0 0, .int .i64 0, .slice (some ⟨Wq.heap.size, 0, none⟩) 1 1] 27)
  (try have HX := HX.later hc); (try have HY := HY.later hc); (try have HZ := HZ.later hc); (try have HA := HA.later hc); (try have HB := HB.later hc); (try (have BU := blk_below BU hc; have HU := Tr.later HU hc)); (try have HC := HC.later hc); have hbw := below_step hbw hc
  have HM := blk_top (w := Wq) (.cells #[.int .u8 3, .string ⟨#[]⟩, .bool false, .string ⟨#[]⟩, .slice none 0 0, .int .i64 0, .slice none 0 0] 27) (.cells #[.int .u8 5, .string ⟨#[120]⟩, .bool false, .string boolN, .slice none 0 0, .int .i64 0, .slice (some ⟨Wq.heap.size, 0, none⟩) 1 1] 27)
  have HMr : RdM ((Wq.alloc (.cells #[.int .u8 3, .string ⟨#[]⟩, .bool false, .string ⟨#[]⟩, .slice none 0 0, .int .i64 0, .slice none 0 0] 27)).alloc (.cells #[.int .u8 5, .string ⟨#[120]⟩, .bool false, .string boolN, .slice none 0 0, .int .i64 0, .slice (some ⟨Wq.heap.size, 0, none⟩) 1 1] 27)) wantM none 0 (some ⟨Wq.heap.size, 0, none⟩) 1 := ⟨⟨nilC _ _, Nat.le_refl _⟩, row_oneM (y := ⟨3, ⟨#[]⟩, ⟨false, ⟨#[]⟩, []⟩, 0, []⟩) (A := none) (c := 0) (B := none) (d := 0) (blk_mid (w := Wq) (.cells #[.int .u8 3, .string ⟨#[]⟩, .bool false, .string ⟨#[]⟩, .slice none 0 0, .int .i64 0, .slice none 0 0] 27) (.cells #[.int .u8 5, .string ⟨#[120]⟩, .bool false, .string boolN, .slice none 0 0, .int .i64 0, .slice (some ⟨Wq.heap.size, 0, none⟩) 1 1] 27)) ⟨⟨nilC _ _, Nat.le_refl _⟩, Kd.F_now (nilFM none _ (fun _ => True)), Nat.le_refl _⟩, Nat.le_refl _⟩
  generalize (Wq.alloc (.cells #[.int .u8 3, .string ⟨#[]⟩, .bool false, .string ⟨#[]⟩, .slice none 0 0, .int .i64 0, .slice none 0 0] 27)).alloc (.cells #[.int .u8 5, .string ⟨#[120]⟩, .bool false, .string boolN, .slice none 0 0, .int .i64 0, .slice (some ⟨Wq.heap.size, 0, none⟩) 1 1] 27) = Wk at *
  have hD := below_drew1 (Below.refl Wk.heap.size Wk)
  have hK0 : AlM w Wk ta tb tc vz u Wta.heap.size (Wq.heap.size + 1) Wq.heap.size Wtb.heap.size Wtc.heap.size Wvz.heap.size Wu.heap.size Aa Ab Ac Az Ba Bb Bc Bz Au ca cb cc cz da db dc dz cu Wk.drew := AlM.step ⟨⟨HA.box, HB.box, HC.box, HZ.box⟩, box7 HM, ⟨(blk_cell BU 0).trans rfl, (blk_cell BU 1).trans rfl, (blk_cell BU 2).trans rfl⟩, Below.refl _ _, hbw⟩ hD
  have rA := HA.2
  have rB := HB.2
  have rC := HC.2
  have rZ := HZ.2
  have cE : ∀ W, AlM w Wk ta tb tc vz u Wta.heap.size (Wq.heap.size + 1) Wq.heap.size Wtb.heap.size Wtc.heap.size Wvz.heap.size Wu.heap.size Aa Ab Ac Az Ba Bb Bc Bz Au ca cb cc cz da db dc dz cu W → Calls Try.prog 34 #[.agg #[.int .u8 ta.f0, .string ta.f1, .bool ta.f2.f0, .string ta.f2.f1, .slice Aa ta.f2.f2.length ca, .int .i64 ta.f3, .slice Ba ta.f4.length da], .agg #[.int .u8 5, .string ⟨#[120]⟩, .bool false, .string boolN, .slice none 0 0, .int .i64 0, .slice (some ⟨Wq.heap.size, 0, none⟩) 1 1]] W (fun e w' => e = .returned (.bool true) ∧ AlM w Wk ta tb tc vz u Wta.heap.size (Wq.heap.size + 1) Wq.heap.size Wtb.heap.size Wtc.heap.size Wvz.heap.size Wu.heap.size Aa Ab Ac Az Ba Bb Bc Bz Au ca cb cc cz da db dc dz cu w') := fun W hw => (sequentref02_Exact.calls ke ta.f0 ta.f1 ta.f2.f0 ta.f2.f1 Aa ca ta.f2.f2 ta.f3 Ba da ta.f4 wantM.f0 wantM.f1 wantM.f2.f0 wantM.f2.f1 none 0 wantM.f2.f2 wantM.f3 (some ⟨Wq.heap.size, 0, none⟩) 1 wantM.f4 true W (rA.later hw.2.2.2.1).1.1 rA.1.2 (rA.later hw.2.2.2.1).2.1 rA.2.2 (HMr.later hw.2.2.2.1).1.1 HMr.1.2 (HMr.later hw.2.2.2.1).2.1 HMr.2.2 hke).mono (fun _ _ h => And.intro h.1 (hw.step h.2))
  have cS : ∀ W, AlM w Wk ta tb tc vz u Wta.heap.size (Wq.heap.size + 1) Wq.heap.size Wtb.heap.size Wtc.heap.size Wvz.heap.size Wu.heap.size Aa Ab Ac Az Ba Bb Bc Bz Au ca cb cc cz da db dc dz cu W → Calls Try.prog 18 #[.agg #[.int .u8 ta.f0, .string ta.f1, .bool ta.f2.f0, .string ta.f2.f1, .slice Aa ta.f2.f2.length ca, .int .i64 ta.f3, .slice Ba ta.f4.length da], .agg #[.int .u8 tb.f0, .string tb.f1, .bool tb.f2.f0, .string tb.f2.f1, .slice Ab tb.f2.f2.length cb, .int .i64 tb.f3, .slice Bb tb.f4.length db]] W (fun e w' => e = .returned (.bool true) ∧ AlM w Wk ta tb tc vz u Wta.heap.size (Wq.heap.size + 1) Wq.heap.size Wtb.heap.size Wtc.heap.size Wvz.heap.size Wu.heap.size Aa Ab Ac Az Ba Bb Bc Bz Au ca cb cc cz da db dc dz cu w') := fun W hw => (hs ▸ sameM_tr ta tb _ _ W ⟨_, _, _, _, rfl, rA.later hw.2.2.2.1⟩ ⟨_, _, _, _, rfl, rB.later hw.2.2.2.1⟩).mono (fun _ _ h => And.intro h.1 (hw.step h.2))
  have cS2 : ∀ W, AlM w Wk ta tb tc vz u Wta.heap.size (Wq.heap.size + 1) Wq.heap.size Wtb.heap.size Wtc.heap.size Wvz.heap.size Wu.heap.size Aa Ab Ac Az Ba Bb Bc Bz Au ca cb cc cz da db dc dz cu W → Calls Try.prog 18 #[.agg #[.int .u8 tc.f0, .string tc.f1, .bool tc.f2.f0, .string tc.f2.f1, .slice Ac tc.f2.f2.length cc, .int .i64 tc.f3, .slice Bc tc.f4.length dc], .agg #[.int .u8 vz.f0, .string vz.f1, .bool vz.f2.f0, .string vz.f2.f1, .slice Az vz.f2.f2.length cz, .int .i64 vz.f3, .slice Bz vz.f4.length dz]] W (fun e w' => e = .returned (.bool true) ∧ AlM w Wk ta tb tc vz u Wta.heap.size (Wq.heap.size + 1) Wq.heap.size Wtb.heap.size Wtc.heap.size Wvz.heap.size Wu.heap.size Aa Ab Ac Az Ba Bb Bc Bz Au ca cb cc cz da db dc dz cu w') := fun W hw => (hs2 ▸ sameM_tr tc vz _ _ W ⟨_, _, _, _, rfl, rC.later hw.2.2.2.1⟩ ⟨_, _, _, _, rfl, rZ.later hw.2.2.2.1⟩).mono (fun _ _ h => And.intro h.1 (hw.step h.2))
  have cT : ∀ r W, Tr W r ⟨false, funN, [tBl, tBl]⟩ → AlM w Wk ta tb tc vz u Wta.heap.size (Wq.heap.size + 1) Wq.heap.size Wtb.heap.size Wtc.heap.size Wvz.heap.size Wu.heap.size Aa Ab Ac Az Ba Bb Bc Bz Au ca cb cc cz da db dc dz cu W → Calls Try.prog 52 #[.agg #[.bool u.f0, .string u.f1, .slice Au u.f2.length cu], r] W (fun e w' => e = .returned (.bool true) ∧ AlM w Wk ta tb tc vz u Wta.heap.size (Wq.heap.size + 1) Wq.heap.size Wtb.heap.size Wtc.heap.size Wvz.heap.size Wu.heap.size Aa Ab Ac Az Ba Bb Bc Bz Au ca cb cc cz da db dc dz cu w') := fun r W hr hw => (ht ▸ same_tr u _ _ _ W (HU.later hw.2.2.2.1) hr).mono (fun _ _ h => And.intro h.1 (hw.step h.2))
  have cB : ∀ W, AlM w Wk ta tb tc vz u Wta.heap.size (Wq.heap.size + 1) Wq.heap.size Wtb.heap.size Wtc.heap.size Wvz.heap.size Wu.heap.size Aa Ab Ac Az Ba Bb Bc Bz Au ca cb cc cz da db dc dz cu W → Calls Try.prog 41 #[] W (fun e w' => e = .returned (.agg #[.bool false, .string boolN, .slice none 0 0]) ∧ AlM w Wk ta tb tc vz u Wta.heap.size (Wq.heap.size + 1) Wq.heap.size Wtb.heap.size Wtc.heap.size Wvz.heap.size Wu.heap.size Aa Ab Ac Az Ba Bb Bc Bz Au ca cb cc cz da db dc dz cu w') := fun W hw => (bool_calls W).mono (fun _ _ h => And.intro h.1 (hw.step h.2))
  have cF : ∀ W, AlM w Wk ta tb tc vz u Wta.heap.size (Wq.heap.size + 1) Wq.heap.size Wtb.heap.size Wtc.heap.size Wvz.heap.size Wu.heap.size Aa Ab Ac Az Ba Bb Bc Bz Au ca cb cc cz da db dc dz cu W → Calls Try.prog 42 #[.agg #[.bool false, .string boolN, .slice none 0 0], .agg #[.bool false, .string boolN, .slice none 0 0]] W (fun e w' => ∃ r, e = .returned r ∧ Tr w' r ⟨false, funN, [tBl, tBl]⟩ ∧ AlM w Wk ta tb tc vz u Wta.heap.size (Wq.heap.size + 1) Wq.heap.size Wtb.heap.size Wtc.heap.size Wvz.heap.size Wu.heap.size Aa Ab Ac Az Ba Bb Bc Bz Au ca cb cc cz da db dc dz cu w') := fun W hw => (fun_tr tBl tBl _ _ W (Tr.leaf false boolN W) (Tr.leaf false boolN W) (by decide) (by decide)).mono (fun _ _ h => by obtain ⟨r, h1, h2, h3⟩ := h; exact ⟨r, h1, h2, hw.step h3⟩)
  clear qx qy qz qa qb qu qc hs ht hs2 hke HX HY HZ HA HB HC HU BU HM HMr rA rB rC rZ hbw hc
  go_region_held3 (fun W => AlM w Wk ta tb tc vz u Wta.heap.size (Wq.heap.size + 1) Wq.heap.size Wtb.heap.size Wtc.heap.size Wvz.heap.size Wu.heap.size Aa Ab Ac Az Ba Bb Bc Bz Au ca cb cc cz da db dc dz cu W)
    (first | (with_reducible exact hK0) | (with_reducible assumption))
    (first
      | (go_at_call 34; (with_reducible refine (cE _ (by with_reducible assumption)).mono ?_); rintro e W1 ⟨rfl, hN⟩)
      | (go_at_call 18; (with_reducible refine (cS _ (by with_reducible assumption)).mono ?_); rintro e W1 ⟨rfl, hN⟩)
      | (go_at_call 18; (with_reducible refine (cS2 _ (by with_reducible assumption)).mono ?_); rintro e W1 ⟨rfl, hN⟩)
      | (go_at_call 41; (with_reducible refine (cB _ (by with_reducible assumption)).mono ?_); rintro e W1 ⟨rfl, hN⟩)
      | (go_at_call 42; (with_reducible refine (cF _ (by with_reducible assumption)).mono ?_); rintro e W1 ⟨r, rfl, HF, hN⟩)
      | (go_at_call 52; (with_reducible refine (cT _ _ HF (by with_reducible assumption)).mono ?_); rintro e W1 ⟨rfl, hN⟩))
  clear cE cS cS2 cT cB cF
  go_wp2
  go_ret
  exact ⟨rfl, hN.2.2.2.2⟩
def vM (n : ByteArray) : S27 := ⟨1, n, tBl, 0, []⟩
def lM (n : ByteArray) : S27 := ⟨5, n, tBl, 0, [⟨3, noN, zT, 0, []⟩]⟩
theorem fit_vM (n : ByteArray) (h : okS n) : fitM (vM n) := ⟨allM_mk ⟨h, fitBl, by show szT tBl ≤ 1000000; decide, by show _ ≤ (0 : Int); omega, by show (0 : Int) ≤ _; omega⟩ (fun x hx => by cases hx), by show szM (vM n) ≤ _; rw [szM_eq]; simp [vM, szML]⟩
theorem fit_lM (n : ByteArray) (h : okS n) : fitM (lM n) := by
  refine ⟨allM_mk ⟨h, fitBl, by show szT tBl ≤ 1000000; decide, by show _ ≤ (0 : Int); omega, by show (0 : Int) ≤ _; omega⟩ (fun x hx => ?_), by rw [szM_eq]; simp [lM, szML, szM]⟩
  obtain rfl : x = ⟨3, noN, zT, 0, []⟩ := by simpa [lM] using hx
  exact allM_mk (fitN_bound 0 (by omega) (by omega)) (fun x hx => by cases hx)
set_option maxRecDepth 100000 in
theorem aliveM_calls (w : World) : Calls Try.prog 15 #[] w fun e w' => e = .returned (.bool true) ∧ Below w.heap.size w w' :=
  aliveM_of w (vM nX) (vM nY) (vM nZ) (lM nX) (lM nY) (vM nZ) ⟨false, funN, [tBl, tBl]⟩ (by kernel_rfl) (by kernel_rfl) (by kernel_rfl) (by kernel_rfl) (by kernel_rfl) (by kernel_rfl) (by kernel_rfl) (by kernel_rfl)
    (fit_vM _ (by unfold okS nX; decide)) (fit_vM _ (by unfold okS nY; decide)) (fit_vM _ (by unfold okS nZ; decide)) (fit_lM _ (by unfold okS nX; decide)) (by kernel_rfl) (by kernel_rfl) (by kernel_rfl) (by kernel_rfl)
end Go.Proofs.Ytecplbgdalchdaa.Q
/- Proved here: the walk of the law TermsOrder. Conditions: those that each theorem names. -/
namespace Go.Proofs.Ytecplbgdalchdaa.Q
open Go.RowKit Go.Shelf Go.Proofs.YtecplbgdalchdaaW.PrintWords Go.Proofs.YtecplbgdalchdaaW.PrintMore
set_option linter.unusedVariables false
set_option linter.unusedSimpArgs false
attribute [local go_sem] Oper.semAt_some


abbrev OrdM (w : World) (x y z : S27) (A : Option Addr) (c : Nat) (B : Option Addr) (d : Nat) (A2 : Option Addr) (c2 : Nat) (B2 : Option Addr) (d2 : Nat) (A3 : Option Addr) (c3 : Nat) (B3 : Option Addr) (d3 : Nat) (W : World) : Prop :=
  BxM W w.heap.size x A c B d ∧ BxM W (w.heap.size + 1) y A2 c2 B2 d2 ∧ BxM W (w.heap.size + 1 + 1) z A3 c3 B3 d3 ∧ Below w.heap.size w W
theorem OrdM.step {w : World} {x y z : S27} {A : Option Addr} {c : Nat} {B : Option Addr} {d : Nat} {A2 : Option Addr} {c2 : Nat} {B2 : Option Addr} {d2 : Nat} {A3 : Option Addr} {c3 : Nat} {B3 : Option Addr} {d3 : Nat} {W W' : World} (h : OrdM w x y z A c B d A2 c2 B2 d2 A3 c3 B3 d3 W) (hb : Below W.heap.size W W') : OrdM w x y z A c B d A2 c2 B2 d2 A3 c3 B3 d3 W' := ⟨h.1.step hb, h.2.1.step hb, h.2.2.1.step hb, below_step h.2.2.2 hb⟩
set_option maxHeartbeats 4000000 in
set_option maxRecDepth 100000 in
theorem law_orderM (x : S27) (A : Option Addr) (c : Nat) (B : Option Addr) (d : Nat) (y : S27) (A2 : Option Addr) (c2 : Nat) (B2 : Option Addr) (d2 : Nat) (z : S27) (A3 : Option Addr) (c3 : Nat) (B3 : Option Addr) (d3 : Nat) (w : World)
    (hx : RdM w x A c B d) (hwx : wdM x) (hy : RdM w y A2 c2 B2 d2) (hwy : wdM y) (hz : RdM w z A3 c3 B3 d3) (hwz : wdM z) :
    Calls Try.prog 3 #[.agg #[.int .u8 x.f0, .string x.f1, .bool x.f2.f0, .string x.f2.f1, .slice A x.f2.f2.length c, .int .i64 x.f3, .slice B x.f4.length d], .agg #[.int .u8 y.f0, .string y.f1, .bool y.f2.f0, .string y.f2.f1, .slice A2 y.f2.f2.length c2, .int .i64 y.f3, .slice B2 y.f4.length d2], .agg #[.int .u8 z.f0, .string z.f1, .bool z.f2.f0, .string z.f2.f1, .slice A3 z.f2.f2.length c3, .int .i64 z.f3, .slice B3 z.f4.length d3]] w fun e w' => e = .returned (.bool true) ∧ Below w.heap.size w w' := by
  obtain ⟨kx, hkx⟩ := (rgreatM_ev x hwx).at
  obtain ⟨ky, hky⟩ := (rgreatM_ev y hwy).at
  obtain ⟨kz, hkz⟩ := (rgreatM_ev z hwz).at
  have hgx := fun W (hw : OrdM w x y z A c B d A2 c2 B2 d2 A3 c3 B3 d3 W) => (sequentref02_Great.calls kx x.f0 x.f1 x.f2.f0 x.f2.f1 A c x.f2.f2 x.f3 B d x.f4 _ W (hx.later hw.2.2.2).1.1 (hx.later hw.2.2.2).1.2 (hx.later hw.2.2.2).2.1 (hx.later hw.2.2.2).2.2 hkx).mono (fun _ _ h => And.intro h.1 (hw.step h.2))
  have hgy := fun W (hw : OrdM w x y z A c B d A2 c2 B2 d2 A3 c3 B3 d3 W) => (sequentref02_Great.calls ky y.f0 y.f1 y.f2.f0 y.f2.f1 A2 c2 y.f2.f2 y.f3 B2 d2 y.f4 _ W (hy.later hw.2.2.2).1.1 (hy.later hw.2.2.2).1.2 (hy.later hw.2.2.2).2.1 (hy.later hw.2.2.2).2.2 hky).mono (fun _ _ h => And.intro h.1 (hw.step h.2))
  have hgz := fun W (hw : OrdM w x y z A c B d A2 c2 B2 d2 A3 c3 B3 d3 W) => (sequentref02_Great.calls kz z.f0 z.f1 z.f2.f0 z.f2.f1 A3 c3 z.f2.f2 z.f3 B3 d3 z.f4 _ W (hz.later hw.2.2.2).1.1 (hz.later hw.2.2.2).1.2 (hz.later hw.2.2.2).2.1 (hz.later hw.2.2.2).2.2 hkz).mono (fun _ _ h => And.intro h.1 (hw.step h.2))
  have hal := fun W (hw : OrdM w x y z A c B d A2 c2 B2 d2 A3 c3 B3 d3 W) => (aliveM_calls W).mono (fun _ _ h => And.intro h.1 (hw.step h.2))
  have hxy := fun W (hw : OrdM w x y z A c B d A2 c2 B2 d2 A3 c3 B3 d3 W) => (compareM_ok _ x y (Nat.le_refl _) A c B d A2 c2 B2 d2 W (hx.later hw.2.2.2) (hy.later hw.2.2.2)).mono (fun _ _ h => And.intro h.1 (hw.step h.2))
  have hyz := fun W (hw : OrdM w x y z A c B d A2 c2 B2 d2 A3 c3 B3 d3 W) => (compareM_ok _ y z (Nat.le_refl _) A2 c2 B2 d2 A3 c3 B3 d3 W (hy.later hw.2.2.2) (hz.later hw.2.2.2)).mono (fun _ _ h => And.intro h.1 (hw.step h.2))
  have hxz := fun W (hw : OrdM w x y z A c B d A2 c2 B2 d2 A3 c3 B3 d3 W) => (compareM_ok _ x z (Nat.le_refl _) A c B d A3 c3 B3 d3 W (hx.later hw.2.2.2) (hz.later hw.2.2.2)).mono (fun _ _ h => And.intro h.1 (hw.step h.2))
  have hyx := fun W (hw : OrdM w x y z A c B d A2 c2 B2 d2 A3 c3 B3 d3 W) => (compareM_ok _ y x (Nat.le_refl _) A2 c2 B2 d2 A c B d W (hy.later hw.2.2.2) (hx.later hw.2.2.2)).mono (fun _ _ h => And.intro h.1 (hw.step h.2))
  have hxx := fun W (hw : OrdM w x y z A c B d A2 c2 B2 d2 A3 c3 B3 d3 W) => (compareM_ok _ x x (Nat.le_refl _) A c B d A c B d W (hx.later hw.2.2.2) (hx.later hw.2.2.2)).mono (fun _ _ h => And.intro h.1 (hw.step h.2))
  have hsm := fun W (hw : OrdM w x y z A c B d A2 c2 B2 d2 A3 c3 B3 d3 W) => (sameM_tr x y _ _ W ⟨_, _, _, _, rfl, hx.later hw.2.2.2⟩ ⟨_, _, _, _, rfl, hy.later hw.2.2.2⟩).mono (fun _ _ h => And.intro h.1 (hw.step h.2))
  have hS0 : OrdM w x y z A c B d A2 c2 B2 d2 A3 c3 B3 d3 (((w.alloc (.cells #[.int .u8 x.f0, .string x.f1, .bool x.f2.f0, .string x.f2.f1, .slice A x.f2.f2.length c, .int .i64 x.f3, .slice B x.f4.length d] 27)).alloc (.cells #[.int .u8 y.f0, .string y.f1, .bool y.f2.f0, .string y.f2.f1, .slice A2 y.f2.f2.length c2, .int .i64 y.f3, .slice B2 y.f4.length d2] 27)).alloc (.cells #[.int .u8 z.f0, .string z.f1, .bool z.f2.f0, .string z.f2.f1, .slice A3 z.f2.f2.length c3, .int .i64 z.f3, .slice B3 z.f4.length d3] 27)) := by
    have a := box7 (blk_alloc (blk_mid (w := w) (.cells #[.int .u8 x.f0, .string x.f1, .bool x.f2.f0, .string x.f2.f1, .slice A x.f2.f2.length c, .int .i64 x.f3, .slice B x.f4.length d] 27) (.cells #[.int .u8 y.f0, .string y.f1, .bool y.f2.f0, .string y.f2.f1, .slice A2 y.f2.f2.length c2, .int .i64 y.f3, .slice B2 y.f4.length d2] 27)) (.cells #[.int .u8 z.f0, .string z.f1, .bool z.f2.f0, .string z.f2.f1, .slice A3 z.f2.f2.length c3, .int .i64 z.f3, .slice B3 z.f4.length d3] 27))
    have b := box7 (blk_alloc (blk_top (w := w) (.cells #[.int .u8 x.f0, .string x.f1, .bool x.f2.f0, .string x.f2.f1, .slice A x.f2.f2.length c, .int .i64 x.f3, .slice B x.f4.length d] 27) (.cells #[.int .u8 y.f0, .string y.f1, .bool y.f2.f0, .string y.f2.f1, .slice A2 y.f2.f2.length c2, .int .i64 y.f3, .slice B2 y.f4.length d2] 27)) (.cells #[.int .u8 z.f0, .string z.f1, .bool z.f2.f0, .string z.f2.f1, .slice A3 z.f2.f2.length c3, .int .i64 z.f3, .slice B3 z.f4.length d3] 27))
    have c := box7 (blk_third (w := w) (.cells #[.int .u8 x.f0, .string x.f1, .bool x.f2.f0, .string x.f2.f1, .slice A x.f2.f2.length c, .int .i64 x.f3, .slice B x.f4.length d] 27) (.cells #[.int .u8 y.f0, .string y.f1, .bool y.f2.f0, .string y.f2.f1, .slice A2 y.f2.f2.length c2, .int .i64 y.f3, .slice B2 y.f4.length d2] 27) (.cells #[.int .u8 z.f0, .string z.f1, .bool z.f2.f0, .string z.f2.f1, .slice A3 z.f2.f2.length c3, .int .i64 z.f3, .slice B3 z.f4.length d3] 27))
    exact ⟨a, b, c, below_three _ _ _⟩
  have hT := cmpM_T x y z
  have hO := cmpM_O x y
  rw [cmpM_self] at hxx
  clear hkx hky hkz hx hy hz hwx hwy hwz
  obtain ⟨hp, hyxe⟩ := hO
  have hq : (cmpM y z = -1 ∨ cmpM y z = 0 ∨ cmpM y z = 1) := (cmpM_O y z).1
  have hr : (cmpM x z = -1 ∨ cmpM x z = 0 ∨ cmpM x z = 1) := (cmpM_O x z).1
  rw [hyxe] at hyx
  clear hyxe
  generalize cmpM x y = p at *
  generalize cmpM y z = q at *
  generalize cmpM x z = r at *
  have HT := Lib.hid hT
  have HP := Lib.hid hp
  have HQ := Lib.hid hq
  have HR := Lib.hid hr
  clear hT hp hq hr
  generalize hm : ((w.alloc (.cells #[.int .u8 x.f0, .string x.f1, .bool x.f2.f0, .string x.f2.f1, .slice A x.f2.f2.length c, .int .i64 x.f3, .slice B x.f4.length d] 27)).alloc (.cells #[.int .u8 y.f0, .string y.f1, .bool y.f2.f0, .string y.f2.f1, .slice A2 y.f2.f2.length c2, .int .i64 y.f3, .slice B2 y.f4.length d2] 27)).alloc (.cells #[.int .u8 z.f0, .string z.f1, .bool z.f2.f0, .string z.f2.f1, .slice A3 z.f2.f2.length c3, .int .i64 z.f3, .slice B3 z.f4.length d3] 27) = W0 at hS0
  have HM := Lib.hid hm
  clear hm
  generalize grtM x = gx at *
  generalize grtM y = gy at *
  generalize grtM z = gz at *
  cases gx with
  | true =>
    clear hgy hgz hxy hyz hxz hyx hxx hsm HT HP HQ HR
    go_enter Try.func3, Try.ntmps3
    go_wp2_with (first
      | (go_at_call 15; rw [HM.out]; refine (hal _ hS0).mono ?_; rintro e W1 ⟨rfl, hN⟩; obtain ⟨⟨x0, x1, x2, x3, x4, x5, x6⟩, ⟨y0, y1, y2, y3, y4, y5, y6⟩, ⟨z0, z1, z2, z3, z4, z5, z6⟩, hbb⟩ := id hN)
      | (go_at_call 16; (with_reducible refine (hgx _ hN).mono ?_); rintro e W1 ⟨rfl, hN⟩; obtain ⟨⟨x0, x1, x2, x3, x4, x5, x6⟩, ⟨y0, y1, y2, y3, y4, y5, y6⟩, ⟨z0, z1, z2, z3, z4, z5, z6⟩, hbb⟩ := id hN))
    go_ret
    exact ⟨rfl, hN.2.2.2⟩
  | false =>
  cases gy with
  | true =>
    clear hgz hxy hyz hxz hyx hxx hsm HT HP HQ HR
    go_enter Try.func3, Try.ntmps3
    go_wp2_with (first
      | (go_at_call 15; rw [HM.out]; refine (hal _ hS0).mono ?_; rintro e W1 ⟨rfl, hN⟩; obtain ⟨⟨x0, x1, x2, x3, x4, x5, x6⟩, ⟨y0, y1, y2, y3, y4, y5, y6⟩, ⟨z0, z1, z2, z3, z4, z5, z6⟩, hbb⟩ := id hN)
      | (go_at_call 16; (with_reducible refine (hgx _ hN).mono ?_); rintro e W1 ⟨rfl, hN⟩; obtain ⟨⟨x0, x1, x2, x3, x4, x5, x6⟩, ⟨y0, y1, y2, y3, y4, y5, y6⟩, ⟨z0, z1, z2, z3, z4, z5, z6⟩, hbb⟩ := id hN)
      | (go_at_call 16; (with_reducible refine (hgy _ hN).mono ?_); rintro e W1 ⟨rfl, hN⟩; obtain ⟨⟨x0, x1, x2, x3, x4, x5, x6⟩, ⟨y0, y1, y2, y3, y4, y5, y6⟩, ⟨z0, z1, z2, z3, z4, z5, z6⟩, hbb⟩ := id hN))
    go_ret
    exact ⟨rfl, hN.2.2.2⟩
  | false =>
  cases gz with
  | true =>
    clear hxy hyz hxz hyx hxx hsm HT HP HQ HR
    go_enter Try.func3, Try.ntmps3
    go_wp2_with (first
      | (go_at_call 15; rw [HM.out]; refine (hal _ hS0).mono ?_; rintro e W1 ⟨rfl, hN⟩; obtain ⟨⟨x0, x1, x2, x3, x4, x5, x6⟩, ⟨y0, y1, y2, y3, y4, y5, y6⟩, ⟨z0, z1, z2, z3, z4, z5, z6⟩, hbb⟩ := id hN)
      | (go_at_call 16; (with_reducible refine (hgx _ hN).mono ?_); rintro e W1 ⟨rfl, hN⟩; obtain ⟨⟨x0, x1, x2, x3, x4, x5, x6⟩, ⟨y0, y1, y2, y3, y4, y5, y6⟩, ⟨z0, z1, z2, z3, z4, z5, z6⟩, hbb⟩ := id hN)
      | (go_at_call 16; (with_reducible refine (hgy _ hN).mono ?_); rintro e W1 ⟨rfl, hN⟩; obtain ⟨⟨x0, x1, x2, x3, x4, x5, x6⟩, ⟨y0, y1, y2, y3, y4, y5, y6⟩, ⟨z0, z1, z2, z3, z4, z5, z6⟩, hbb⟩ := id hN)
      | (go_at_call 16; (with_reducible refine (hgz _ hN).mono ?_); rintro e W1 ⟨rfl, hN⟩; obtain ⟨⟨x0, x1, x2, x3, x4, x5, x6⟩, ⟨y0, y1, y2, y3, y4, y5, y6⟩, ⟨z0, z1, z2, z3, z4, z5, z6⟩, hbb⟩ := id hN))
    go_ret
    exact ⟨rfl, hN.2.2.2⟩
  | false =>
  go_enter Try.func3, Try.ntmps3
  go_wp2_with (first
    | (go_at_call 15; rw [HM.out]; refine (hal _ hS0).mono ?_; rintro e W1 ⟨rfl, hN⟩; obtain ⟨⟨x0, x1, x2, x3, x4, x5, x6⟩, ⟨y0, y1, y2, y3, y4, y5, y6⟩, ⟨z0, z1, z2, z3, z4, z5, z6⟩, hbb⟩ := id hN)
    | (go_at_call 16; (with_reducible refine (hgx _ hN).mono ?_); rintro e W1 ⟨rfl, hN⟩; obtain ⟨⟨x0, x1, x2, x3, x4, x5, x6⟩, ⟨y0, y1, y2, y3, y4, y5, y6⟩, ⟨z0, z1, z2, z3, z4, z5, z6⟩, hbb⟩ := id hN)
    | (go_at_call 16; (with_reducible refine (hgy _ hN).mono ?_); rintro e W1 ⟨rfl, hN⟩; obtain ⟨⟨x0, x1, x2, x3, x4, x5, x6⟩, ⟨y0, y1, y2, y3, y4, y5, y6⟩, ⟨z0, z1, z2, z3, z4, z5, z6⟩, hbb⟩ := id hN)
    | (go_at_call 16; (with_reducible refine (hgz _ hN).mono ?_); rintro e W1 ⟨rfl, hN⟩; obtain ⟨⟨x0, x1, x2, x3, x4, x5, x6⟩, ⟨y0, y1, y2, y3, y4, y5, y6⟩, ⟨z0, z1, z2, z3, z4, z5, z6⟩, hbb⟩ := id hN))
  have hN0 : OrdM w x y z A c B d A2 c2 B2 d2 A3 c3 B3 d3 W1.drew := hN.step (below_drew1 (Below.refl _ _))
  clear hgx hgy hgz hal hS0
  go_region_held3 (fun W => OrdM w x y z A c B d A2 c2 B2 d2 A3 c3 B3 d3 W)
    (first | (with_reducible exact hN0) | (with_reducible assumption))
    (first | (go_at_call 17; (with_reducible refine (hxy _ (by with_reducible assumption)).mono ?_); rintro e W1 ⟨rfl, hN⟩) | (go_at_call 17; (with_reducible refine (hyz _ (by with_reducible assumption)).mono ?_); rintro e W1 ⟨rfl, hN⟩) | (go_at_call 17; (with_reducible refine (hxz _ (by with_reducible assumption)).mono ?_); rintro e W1 ⟨rfl, hN⟩))
  clear hxy hyz hxz hN0
  obtain ⟨⟨x0, x1, x2, x3, x4, x5, x6⟩, ⟨y0, y1, y2, y3, y4, y5, y6⟩, ⟨z0, z1, z2, z3, z4, z5, z6⟩, hbb⟩ := id hN
  have hyx2 := fun p' (h : p' = -p) W hw => (h ▸ hyx W hw : Calls Try.prog 17 #[.agg #[.int .u8 y.f0, .string y.f1, .bool y.f2.f0, .string y.f2.f1, .slice A2 y.f2.f2.length c2, .int .i64 y.f3, .slice B2 y.f4.length d2], .agg #[.int .u8 x.f0, .string x.f1, .bool x.f2.f0, .string x.f2.f1, .slice A x.f2.f2.length c, .int .i64 x.f3, .slice B x.f4.length d]] W fun e w' => e = .returned (.int .i64 p') ∧ OrdM w x y z A c B d A2 c2 B2 d2 A3 c3 B3 d3 w')
  clear hyx
  rcases HP.out with rfl | rfl | rfl
  · have hyx := hyx2 (1) rfl
    have hsm : ∀ W, OrdM w x y z A c B d A2 c2 B2 d2 A3 c3 B3 d3 W → Calls Try.prog 18 #[.agg #[.int .u8 x.f0, .string x.f1, .bool x.f2.f0, .string x.f2.f1, .slice A x.f2.f2.length c, .int .i64 x.f3, .slice B x.f4.length d], .agg #[.int .u8 y.f0, .string y.f1, .bool y.f2.f0, .string y.f2.f1, .slice A2 y.f2.f2.length c2, .int .i64 y.f3, .slice B2 y.f4.length d2]] W fun e w' => e = .returned (.bool false) ∧ OrdM w x y z A c B d A2 c2 B2 d2 A3 c3 B3 d3 w' := hsm
    have hT3 := HT.out
    unfold T3 at hT3
    rcases HQ.out with rfl | rfl | rfl <;> rcases HR.out with rfl | rfl | rfl <;> (try (exfalso; omega))
    all_goals clear hT3 HT HP HQ HR hyx2
    all_goals go_wp2_with (first | (go_at_call 17; (with_reducible refine (hxx _ hN).mono ?_); rintro e W1 ⟨rfl, hN⟩; obtain ⟨⟨x0, x1, x2, x3, x4, x5, x6⟩, ⟨y0, y1, y2, y3, y4, y5, y6⟩, ⟨z0, z1, z2, z3, z4, z5, z6⟩, hbb⟩ := id hN) | (go_at_call 17; (with_reducible refine (hyx _ hN).mono ?_); rintro e W1 ⟨rfl, hN⟩; obtain ⟨⟨x0, x1, x2, x3, x4, x5, x6⟩, ⟨y0, y1, y2, y3, y4, y5, y6⟩, ⟨z0, z1, z2, z3, z4, z5, z6⟩, hbb⟩ := id hN) | (go_at_call 18; (with_reducible refine (hsm _ hN).mono ?_); rintro e W1 ⟨rfl, hN⟩; obtain ⟨⟨x0, x1, x2, x3, x4, x5, x6⟩, ⟨y0, y1, y2, y3, y4, y5, y6⟩, ⟨z0, z1, z2, z3, z4, z5, z6⟩, hbb⟩ := id hN))
    all_goals go_ret
    all_goals exact ⟨rfl, hN.2.2.2⟩
  · have hyx := hyx2 (0) rfl
    have hsm : ∀ W, OrdM w x y z A c B d A2 c2 B2 d2 A3 c3 B3 d3 W → Calls Try.prog 18 #[.agg #[.int .u8 x.f0, .string x.f1, .bool x.f2.f0, .string x.f2.f1, .slice A x.f2.f2.length c, .int .i64 x.f3, .slice B x.f4.length d], .agg #[.int .u8 y.f0, .string y.f1, .bool y.f2.f0, .string y.f2.f1, .slice A2 y.f2.f2.length c2, .int .i64 y.f3, .slice B2 y.f4.length d2]] W fun e w' => e = .returned (.bool true) ∧ OrdM w x y z A c B d A2 c2 B2 d2 A3 c3 B3 d3 w' := hsm
    have hT3 := HT.out
    unfold T3 at hT3
    rcases HQ.out with rfl | rfl | rfl <;> rcases HR.out with rfl | rfl | rfl <;> (try (exfalso; omega))
    all_goals clear hT3 HT HP HQ HR hyx2
    all_goals go_wp2_with (first | (go_at_call 17; (with_reducible refine (hxx _ hN).mono ?_); rintro e W1 ⟨rfl, hN⟩; obtain ⟨⟨x0, x1, x2, x3, x4, x5, x6⟩, ⟨y0, y1, y2, y3, y4, y5, y6⟩, ⟨z0, z1, z2, z3, z4, z5, z6⟩, hbb⟩ := id hN) | (go_at_call 17; (with_reducible refine (hyx _ hN).mono ?_); rintro e W1 ⟨rfl, hN⟩; obtain ⟨⟨x0, x1, x2, x3, x4, x5, x6⟩, ⟨y0, y1, y2, y3, y4, y5, y6⟩, ⟨z0, z1, z2, z3, z4, z5, z6⟩, hbb⟩ := id hN) | (go_at_call 18; (with_reducible refine (hsm _ hN).mono ?_); rintro e W1 ⟨rfl, hN⟩; obtain ⟨⟨x0, x1, x2, x3, x4, x5, x6⟩, ⟨y0, y1, y2, y3, y4, y5, y6⟩, ⟨z0, z1, z2, z3, z4, z5, z6⟩, hbb⟩ := id hN))
    all_goals go_ret
    all_goals exact ⟨rfl, hN.2.2.2⟩
  · have hyx := hyx2 (-1) rfl
    have hsm : ∀ W, OrdM w x y z A c B d A2 c2 B2 d2 A3 c3 B3 d3 W → Calls Try.prog 18 #[.agg #[.int .u8 x.f0, .string x.f1, .bool x.f2.f0, .string x.f2.f1, .slice A x.f2.f2.length c, .int .i64 x.f3, .slice B x.f4.length d], .agg #[.int .u8 y.f0, .string y.f1, .bool y.f2.f0, .string y.f2.f1, .slice A2 y.f2.f2.length c2, .int .i64 y.f3, .slice B2 y.f4.length d2]] W fun e w' => e = .returned (.bool false) ∧ OrdM w x y z A c B d A2 c2 B2 d2 A3 c3 B3 d3 w' := hsm
    have hT3 := HT.out
    unfold T3 at hT3
    rcases HQ.out with rfl | rfl | rfl <;> rcases HR.out with rfl | rfl | rfl <;> (try (exfalso; omega))
    all_goals clear hT3 HT HP HQ HR hyx2
    all_goals go_wp2_with (first | (go_at_call 17; (with_reducible refine (hxx _ hN).mono ?_); rintro e W1 ⟨rfl, hN⟩; obtain ⟨⟨x0, x1, x2, x3, x4, x5, x6⟩, ⟨y0, y1, y2, y3, y4, y5, y6⟩, ⟨z0, z1, z2, z3, z4, z5, z6⟩, hbb⟩ := id hN) | (go_at_call 17; (with_reducible refine (hyx _ hN).mono ?_); rintro e W1 ⟨rfl, hN⟩; obtain ⟨⟨x0, x1, x2, x3, x4, x5, x6⟩, ⟨y0, y1, y2, y3, y4, y5, y6⟩, ⟨z0, z1, z2, z3, z4, z5, z6⟩, hbb⟩ := id hN) | (go_at_call 18; (with_reducible refine (hsm _ hN).mono ?_); rintro e W1 ⟨rfl, hN⟩; obtain ⟨⟨x0, x1, x2, x3, x4, x5, x6⟩, ⟨y0, y1, y2, y3, y4, y5, y6⟩, ⟨z0, z1, z2, z3, z4, z5, z6⟩, hbb⟩ := id hN))
    all_goals go_ret
    all_goals exact ⟨rfl, hN.2.2.2⟩
end Go.Proofs.Ytecplbgdalchdaa.Q
