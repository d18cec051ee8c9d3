/- Proved here: parts of the proof of a given statement (HRowTermsOpen): contracts of the functions that it reaches, what they answer, and in the last text the statement itself. Conditions: those that each theorem names. -/
import Derived.Test.YtecplbgdalchdaaZTPX15
import Derived.Test.YtecplbgdalchdaaZTPX16
import Derived.Test.YtecplbgdalchdaaZTPX13
import Derived.Test.YtecplbgdalchdaaZTPX7
import Derived.Test.YtecplbgdalchdaaZTPX6
import Derived.Deep.RegionHeld3
import Derived.Test.YtecplbgdalchdaaZTPX10
import Derived.Deep.AppendLies
import Derived.Deep.Cut
/- Proved here: the laws' alive returns true. Conditions: none. -/
namespace Go.Proofs.Ytecplbgdalchdaa.Q
open Go.RowKit Go.Shelf Go.Proofs.YtecplbgdalchdaaW.PrintWords Go.Proofs.YtecplbgdalchdaaW.PrintMore
set_option linter.unusedVariables false
set_option linter.unusedSimpArgs false
attribute [local go_sem] Oper.semAt_some


/-- A boxed term, and what it reads. -/
abbrev HdM (W : World) (g : Nat) (x : S27) (A : Option Addr) (c : Nat) (B : Option Addr) (d : Nat) : Prop := W.heap[g]? = some (.cells #[.int .u8 x.f0, .string x.f1, .bool x.f2.f0, .string x.f2.f1, .slice A x.f2.f2.length c, .int .i64 x.f3, .slice B x.f4.length d] 27 (0, 0)) ∧ RdM W x A c B d
theorem HdM.later {W W' : World} {g : Nat} {x : S27} {A B : Option Addr} {c d : Nat} (h : HdM W g x A c B d) (hb : Below W.heap.size W W') : HdM W' g x A c B d := ⟨blk_below h.1 hb, h.2.later hb⟩
theorem HdM.new {W : World} {x : S27} {A B : Option Addr} {c d : Nat} (h : RdM W x A c B d) : HdM (W.alloc (.cells #[.int .u8 x.f0, .string x.f1, .bool x.f2.f0, .string x.f2.f1, .slice A x.f2.f2.length c, .int .i64 x.f3, .slice B x.f4.length d] 27)) W.heap.size x A c B d := ⟨blk_new _ _, h.later (below_one _)⟩
theorem HdM.box {W : World} {g : Nat} {x : S27} {A B : Option Addr} {c d : Nat} (h : HdM W g x A c B d) : BxM W g x A c B d := box7 h.1
def nX : ByteArray := ⟨#[120]⟩
def nY : ByteArray := ⟨#[121]⟩
def nZ : ByteArray := ⟨#[122]⟩
def tBl : S24 := ⟨false, boolN, []⟩
def wantM : S27 := ⟨5, nX, tBl, 0, [⟨3, ⟨#[]⟩, ⟨false, ⟨#[]⟩, []⟩, 0, []⟩]⟩
theorem fitBl : fit tBl := fitl _ _ (by unfold okS; decide)
theorem OwM.rd {w : World} {ok : Nat → Prop} {a : Value} {x : S27} (h : OwM w ok a x) : ∃ A c B d, a = .agg #[.int .u8 x.f0, .string x.f1, .bool x.f2.f0, .string x.f2.f1, .slice A x.f2.f2.length c, .int .i64 x.f3, .slice B x.f4.length d] ∧ RdM w x A c B d := h.tr
abbrev AlM (w wk : World) (ta tb tc vz : S27) (u : S24) (ga gm ge gb gc gz gu : Nat) (Aa Ab Ac Az Ba Bb Bc Bz Au : Option Addr) (ca cb cc cz da db dc dz cu : Nat) (W : World) : Prop :=
  (BxM W ga ta Aa ca Ba da ∧ BxM W gb tb Ab cb Bb db ∧ BxM W gc tc Ac cc Bc dc ∧ BxM W gz vz Az cz Bz dz) ∧ (W.cell? ⟨gm, 0, none⟩ = some (.int .u8 5) ∧ W.cell? ⟨gm, 1, none⟩ = some (.string ⟨#[120]⟩) ∧ W.cell? ⟨gm, 2, none⟩ = some (.bool false) ∧ W.cell? ⟨gm, 3, none⟩ = some (.string boolN) ∧ W.cell? ⟨gm, 4, none⟩ = some (.slice none 0 0) ∧ W.cell? ⟨gm, 5, none⟩ = some (.int .i64 0) ∧ W.cell? ⟨gm, 6, none⟩ = some (.slice (some ⟨ge, 0, none⟩) 1 1)) ∧ (W.cell? ⟨gu, 0, none⟩ = some (.bool u.f0) ∧ W.cell? ⟨gu, 1, none⟩ = some (.string u.f1) ∧ W.cell? ⟨gu, 2, none⟩ = some (.slice Au u.f2.length cu)) ∧ Below wk.heap.size wk W ∧ Below w.heap.size w W
theorem AlM.step {w wk : World} {ta tb tc vz : S27} {u : S24} {ga gm ge gb gc gz gu : Nat} {Aa Ab Ac Az Ba Bb Bc Bz Au : Option Addr} {ca cb cc cz da db dc dz cu : Nat} {W W' : World} (h : AlM w wk ta tb tc vz u ga gm ge gb gc gz gu Aa Ab Ac Az Ba Bb Bc Bz Au ca cb cc cz da db dc dz cu W) (hb : Below W.heap.size W W') : AlM w wk ta tb tc vz u ga gm ge gb gc gz gu Aa Ab Ac Az Ba Bb Bc Bz Au ca cb cc cz da db dc dz cu W' := by
  obtain ⟨⟨h1, h2, h3, h4⟩, ⟨m0, m1, m2, m3, m4, m5, m6⟩, ⟨u0, u1, u2⟩, hk, hw⟩ := h
  exact ⟨⟨h1.step hb, h2.step hb, h3.step hb, h4.step hb⟩, ⟨pw_cell_below hb m0, pw_cell_below hb m1, pw_cell_below hb m2, pw_cell_below hb m3, pw_cell_below hb m4, pw_cell_below hb m5, pw_cell_below hb m6⟩, ⟨pw_cell_below hb u0, pw_cell_below hb u1, pw_cell_below hb u2⟩, below_step hk hb, below_step hw hb⟩
set_option maxHeartbeats 8000000 in
set_option maxRecDepth 100000 in
theorem aliveM_of (w : World) (vx vy vz ta tb tc : S27) (u : S24) (hx : leafF 1 nX tBl = (vx, 0)) (hy : leafF 1 nY tBl = (vy, 0)) (hz : leafF 1 nZ tBl = (vz, 0)) (ha : lamF vx vx = (ta, 0)) (hb : lamF vy vy = (tb, 0)) (hu : tyoM ta = (u, 0)) (hcu : chkM ta = 0) (hc : opnF ta vz = (tc, 0))
    (fx : fitM vx) (fy : fitM vy) (fz : fitM vz) (fa : fitM ta) (he : exM ta wantM = true) (hs : (cmpM ta tb == 0) = true) (ht : (cmpT u ⟨false, funN, [tBl, tBl]⟩ == 0) = true) (hs2 : (cmpM tc vz == 0) = true) :
    Calls Try.prog 15 #[] w fun e w' => e = .returned (.bool true) ∧ Below w.heap.size w w' := by
  obtain ⟨ke, hke⟩ := (rexact_ev ta fa wantM).at
  rw [he] at hke
  have qx : ∀ W, Calls Try.prog 47 #[.string ⟨#[120]⟩, .agg #[.bool false, .string boolN, .slice none 0 0]] W (PairPost W (vx, 0)) := fun W => hx ▸ var_tcalls nX tBl (by unfold okS nX; decide) fitBl _ W (Tr.leaf false boolN W)
  have qy : ∀ W, Calls Try.prog 47 #[.string ⟨#[121]⟩, .agg #[.bool false, .string boolN, .slice none 0 0]] W (PairPost W (vy, 0)) := fun W => hy ▸ var_tcalls nY tBl (by unfold okS nY; decide) fitBl _ W (Tr.leaf false boolN W)
  have qz : ∀ W, Calls Try.prog 47 #[.string ⟨#[122]⟩, .agg #[.bool false, .string boolN, .slice none 0 0]] W (PairPost W (vz, 0)) := fun W => hz ▸ var_tcalls nZ tBl (by unfold okS nZ; decide) fitBl _ W (Tr.leaf false boolN W)
  have qa : ∀ A c B d W, RdM W vx A c B d → Calls Try.prog 44 #[.agg #[.int .u8 vx.f0, .string vx.f1, .bool vx.f2.f0, .string vx.f2.f1, .slice A vx.f2.f2.length c, .int .i64 vx.f3, .slice B vx.f4.length d], .agg #[.int .u8 vx.f0, .string vx.f1, .bool vx.f2.f0, .string vx.f2.f1, .slice A vx.f2.f2.length c, .int .i64 vx.f3, .slice B vx.f4.length d]] W (PairPost W (ta, 0)) := fun A c B d W h => ha ▸ lambda_tr vx vx fx fx _ _ W ⟨A, c, B, d, rfl, h⟩ ⟨A, c, B, d, rfl, h⟩
  have qb : ∀ A c B d W, RdM W vy A c B d → Calls Try.prog 44 #[.agg #[.int .u8 vy.f0, .string vy.f1, .bool vy.f2.f0, .string vy.f2.f1, .slice A vy.f2.f2.length c, .int .i64 vy.f3, .slice B vy.f4.length d], .agg #[.int .u8 vy.f0, .string vy.f1, .bool vy.f2.f0, .string vy.f2.f1, .slice A vy.f2.f2.length c, .int .i64 vy.f3, .slice B vy.f4.length d]] W (PairPost W (tb, 0)) := fun A c B d W h => hb ▸ lambda_tr vy vy fy fy _ _ W ⟨A, c, B, d, rfl, h⟩ ⟨A, c, B, d, rfl, h⟩
  have qu : ∀ A c B d W, RdM W ta A c B d → Calls Try.prog 20 #[.agg #[.int .u8 ta.f0, .string ta.f1, .bool ta.f2.f0, .string ta.f2.f1, .slice A ta.f2.f2.length c, .int .i64 ta.f3, .slice B ta.f4.length d]] W fun e w' => ∃ r, e = .returned (.tuple #[r, .int .i64 0]) ∧ Tr w' r u ∧ Below W.heap.size W w' := by
    intro A c B d W h
    have h2 := tyoM_tr ta fa _ W ⟨A, c, B, d, rfl, h⟩
    rw [hu, hcu] at h2
    exact h2
  have qc : ∀ A c B d A' c' B' d' W, RdM W ta A c B d → RdM W vz A' c' B' d' → Calls Try.prog 45 #[.agg #[.int .u8 ta.f0, .string ta.f1, .bool ta.f2.f0, .string ta.f2.f1, .slice A ta.f2.f2.length c, .int .i64 ta.f3, .slice B ta.f4.length d], .agg #[.int .u8 vz.f0, .string vz.f1, .bool vz.f2.f0, .string vz.f2.f1, .slice A' vz.f2.f2.length c', .int .i64 vz.f3, .slice B' vz.f4.length d']] W (PairPost W (tc, 0)) := fun A c B d A' c' B' d' W h h' => hc ▸ open_tr ta vz fa fz _ _ W ⟨A, c, B, d, rfl, h⟩ ⟨A', c', B', d', rfl, h'⟩
  have hbw : Below w.heap.size w w := Below.refl _ w
  clear hx hy hz ha hb hu hcu hc fx fy fz fa he
  go_enter Try.func15, Try.ntmps15
  go_wp2_with (first
    | (go_at_call 47; (with_reducible refine (qx _).mono ?_); rintro e Wvx ⟨r, rfl, hO, hc⟩; obtain ⟨Ax, cx, Bx, dx, rfl, hR⟩ := hO.rd; dsimp only at hR ⊢; (try have HX := HX.later hc); (try have HY := HY.later hc); (try have HZ := HZ.later hc); (try have HA := HA.later hc); (try have HB := HB.later hc); (try (have BU := blk_below BU hc; have HU := Tr.later HU hc)); (try have HC := HC.later hc); have hbw := below_step hbw hc; have hc := below_one (w := Wvx) (.cells #[.int .u8 vx.f0, .string vx.f1, .bool vx.f2.f0, .string vx.f2.f1, .slice Ax vx.f2.f2.length cx, .int .i64 vx.f3, .slice Bx vx.f4.length dx] 27); (try have HX := HX.later hc); (try have HY := HY.later hc); (try have HZ := HZ.later hc); (try have HA := HA.later hc); (try have HB := HB.later hc); (try (have BU := blk_below BU hc; have HU := Tr.later HU hc)); (try have HC := HC.later hc); have hbw := below_step hbw hc; have HX := HdM.new (x := vx) hR; (try obtain ⟨x0, x1, x2, x3, x4, x5, x6⟩ := HX.box); (try obtain ⟨y0, y1, y2, y3, y4, y5, y6⟩ := HY.box); (try obtain ⟨z0, z1, z2, z3, z4, z5, z6⟩ := HZ.box); (try obtain ⟨a0, a1, a2, a3, a4, a5, a6⟩ := HA.box))
    | (go_at_call 47; (with_reducible refine (qy _).mono ?_); rintro e Wvy ⟨r, rfl, hO, hc⟩; obtain ⟨Ay, cy, By, dy, rfl, hR⟩ := hO.rd; dsimp only at hR ⊢; (try have HX := HX.later hc); (try have HY := HY.later hc); (try have HZ := HZ.later hc); (try have HA := HA.later hc); (try have HB := HB.later hc); (try (have BU := blk_below BU hc; have HU := Tr.later HU hc)); (try have HC := HC.later hc); have hbw := below_step hbw hc; have hc := below_one (w := Wvy) (.cells #[.int .u8 vy.f0, .string vy.f1, .bool vy.f2.f0, .string vy.f2.f1, .slice Ay vy.f2.f2.length cy, .int .i64 vy.f3, .slice By vy.f4.length dy] 27); (try have HX := HX.later hc); (try have HY := HY.later hc); (try have HZ := HZ.later hc); (try have HA := HA.later hc); (try have HB := HB.later hc); (try (have BU := blk_below BU hc; have HU := Tr.later HU hc)); (try have HC := HC.later hc); have hbw := below_step hbw hc; have HY := HdM.new (x := vy) hR; (try obtain ⟨x0, x1, x2, x3, x4, x5, x6⟩ := HX.box); (try obtain ⟨y0, y1, y2, y3, y4, y5, y6⟩ := HY.box); (try obtain ⟨z0, z1, z2, z3, z4, z5, z6⟩ := HZ.box); (try obtain ⟨a0, a1, a2, a3, a4, a5, a6⟩ := HA.box))
    | (go_at_call 47; (with_reducible refine (qz _).mono ?_); rintro e Wvz ⟨r, rfl, hO, hc⟩; obtain ⟨Az, cz, Bz, dz, rfl, hR⟩ := hO.rd; dsimp only at hR ⊢; (try have HX := HX.later hc); (try have HY := HY.later hc); (try have HZ := HZ.later hc); (try have HA := HA.later hc); (try have HB := HB.later hc); (try (have BU := blk_below BU hc; have HU := Tr.later HU hc)); (try have HC := HC.later hc); have hbw := below_step hbw hc; have hc := below_one (w := Wvz) (.cells #[.int .u8 vz.f0, .string vz.f1, .bool vz.f2.f0, .string vz.f2.f1, .slice Az vz.f2.f2.length cz, .int .i64 vz.f3, .slice Bz vz.f4.length dz] 27); (try have HX := HX.later hc); (try have HY := HY.later hc); (try have HZ := HZ.later hc); (try have HA := HA.later hc); (try have HB := HB.later hc); (try (have BU := blk_below BU hc; have HU := Tr.later HU hc)); (try have HC := HC.later hc); have hbw := below_step hbw hc; have HZ := HdM.new (x := vz) hR; (try obtain ⟨x0, x1, x2, x3, x4, x5, x6⟩ := HX.box); (try obtain ⟨y0, y1, y2, y3, y4, y5, y6⟩ := HY.box); (try obtain ⟨z0, z1, z2, z3, z4, z5, z6⟩ := HZ.box); (try obtain ⟨a0, a1, a2, a3, a4, a5, a6⟩ := HA.box))
    | (go_at_call 44; (with_reducible refine (qa _ _ _ _ _ HX.2).mono ?_); rintro e Wta ⟨r, rfl, hO, hc⟩; obtain ⟨Aa, ca, Ba, da, rfl, hR⟩ := hO.rd; dsimp only at hR ⊢; (try have HX := HX.later hc); (try have HY := HY.later hc); (try have HZ := HZ.later hc); (try have HA := HA.later hc); (try have HB := HB.later hc); (try (have BU := blk_below BU hc; have HU := Tr.later HU hc)); (try have HC := HC.later hc); have hbw := below_step hbw hc; have hc := below_one (w := Wta) (.cells #[.int .u8 ta.f0, .string ta.f1, .bool ta.f2.f0, .string ta.f2.f1, .slice Aa ta.f2.f2.length ca, .int .i64 ta.f3, .slice Ba ta.f4.length da] 27); (try have HX := HX.later hc); (try have HY := HY.later hc); (try have HZ := HZ.later hc); (try have HA := HA.later hc); (try have HB := HB.later hc); (try (have BU := blk_below BU hc; have HU := Tr.later HU hc)); (try have HC := HC.later hc); have hbw := below_step hbw hc; have HA := HdM.new (x := ta) hR; (try obtain ⟨x0, x1, x2, x3, x4, x5, x6⟩ := HX.box); (try obtain ⟨y0, y1, y2, y3, y4, y5, y6⟩ := HY.box); (try obtain ⟨z0, z1, z2, z3, z4, z5, z6⟩ := HZ.box); (try obtain ⟨a0, a1, a2, a3, a4, a5, a6⟩ := HA.box))
    | (go_at_call 44; (with_reducible refine (qb _ _ _ _ _ HY.2).mono ?_); rintro e Wtb ⟨r, rfl, hO, hc⟩; obtain ⟨Ab, cb, Bb, db, rfl, hR⟩ := hO.rd; dsimp only at hR ⊢; (try have HX := HX.later hc); (try have HY := HY.later hc); (try have HZ := HZ.later hc); (try have HA := HA.later hc); (try have HB := HB.later hc); (try (have BU := blk_below BU hc; have HU := Tr.later HU hc)); (try have HC := HC.later hc); have hbw := below_step hbw hc; have hc := below_one (w := Wtb) (.cells #[.int .u8 tb.f0, .string tb.f1, .bool tb.f2.f0, .string tb.f2.f1, .slice Ab tb.f2.f2.length cb, .int .i64 tb.f3, .slice Bb tb.f4.length db] 27); (try have HX := HX.later hc); (try have HY := HY.later hc); (try have HZ := HZ.later hc); (try have HA := HA.later hc); (try have HB := HB.later hc); (try (have BU := blk_below BU hc; have HU := Tr.later HU hc)); (try have HC := HC.later hc); have hbw := below_step hbw hc; have HB := HdM.new (x := tb) hR; (try obtain ⟨x0, x1, x2, x3, x4, x5, x6⟩ := HX.box); (try obtain ⟨y0, y1, y2, y3, y4, y5, y6⟩ := HY.box); (try obtain ⟨z0, z1, z2, z3, z4, z5, z6⟩ := HZ.box); (try obtain ⟨a0, a1, a2, a3, a4, a5, a6⟩ := HA.box))
    | (go_at_call 20; (with_reducible refine (qu _ _ _ _ _ HA.2).mono ?_); rintro e Wu ⟨r, rfl, hO, hc⟩; obtain ⟨Au, cu, rfl, hlu, hCu⟩ := hO; dsimp only at hlu hCu ⊢; (try have HX := HX.later hc); (try have HY := HY.later hc); (try have HZ := HZ.later hc); (try have HA := HA.later hc); (try have HB := HB.later hc); (try (have BU := blk_below BU hc; have HU := Tr.later HU hc)); (try have HC := HC.later hc); have hbw := below_step hbw hc; have hc := below_one (w := Wu) (.cells #[.bool u.f0, .string u.f1, .slice Au u.f2.length cu] 24); (try have HX := HX.later hc); (try have HY := HY.later hc); (try have HZ := HZ.later hc); (try have HA := HA.later hc); (try have HB := HB.later hc); (try (have BU := blk_below BU hc; have HU := Tr.later HU hc)); (try have HC := HC.later hc); have hbw := below_step hbw hc; have BU := blk_new Wu (.cells #[.bool u.f0, .string u.f1, .slice Au u.f2.length cu] 24); have HU : Tr (Wu.alloc (.cells #[.bool u.f0, .string u.f1, .slice Au u.f2.length cu] 24)) (.agg #[.bool u.f0, .string u.f1, .slice Au u.f2.length cu]) u := Tr.later ⟨Au, cu, rfl, hlu, hCu⟩ hc; (try obtain ⟨x0, x1, x2, x3, x4, x5, x6⟩ := HX.box); (try obtain ⟨y0, y1, y2, y3, y4, y5, y6⟩ := HY.box); (try obtain ⟨z0, z1, z2, z3, z4, z5, z6⟩ := HZ.box); (try obtain ⟨a0, a1, a2, a3, a4, a5, a6⟩ := HA.box))
    | (go_at_call 45; (with_reducible refine (qc _ _ _ _ _ _ _ _ _ HA.2 HZ.2).mono ?_); rintro e Wtc ⟨r, rfl, hO, hc⟩; obtain ⟨Ac, cc, Bc, dc, rfl, hR⟩ := hO.rd; dsimp only at hR ⊢; (try have HX := HX.later hc); (try have HY := HY.later hc); (try have HZ := HZ.later hc); (try have HA := HA.later hc); (try have HB := HB.later hc); (try (have BU := blk_below BU hc; have HU := Tr.later HU hc)); (try have HC := HC.later hc); have hbw := below_step hbw hc; have hc := below_one (w := Wtc) (.cells #[.int .u8 tc.f0, .string tc.f1, .bool tc.f2.f0, .string tc.f2.f1, .slice Ac tc.f2.f2.length cc, .int .i64 tc.f3, .slice Bc tc.f4.length dc] 27); (try have HX := HX.later hc); (try have HY := HY.later hc); (try have HZ := HZ.later hc); (try have HA := HA.later hc); (try have HB := HB.later hc); (try (have BU := blk_below BU hc; have HU := Tr.later HU hc)); (try have HC := HC.later hc); have hbw := below_step hbw hc; have HC := HdM.new (x := tc) hR; (try obtain ⟨x0, x1, x2, x3, x4, x5, x6⟩ := HX.box); (try obtain ⟨y0, y1, y2, y3, y4, y5, y6⟩ := HY.box); (try obtain ⟨z0, z1, z2, z3, z4, z5, z6⟩ := HZ.box); (try obtain ⟨a0, a1, a2, a3, a4, a5, a6⟩ := HA.box))
    | (go_at_call 41; (with_reducible refine (bool_calls _).mono ?_); rintro e Wq ⟨rfl, hc⟩; (try have HX := HX.later hc); (try have HY := HY.later hc); (try have HZ := HZ.later hc); (try have HA := HA.later hc); (try have HB := HB.later hc); (try (have BU := blk_below BU hc; have HU := Tr.later HU hc)); (try have HC := HC.later hc); have hbw := below_step hbw hc; (try obtain ⟨x0, x1, x2, x3, x4, x5, x6⟩ := HX.box); (try obtain ⟨y0, y1, y2, y3, y4, y5, y6⟩ := HY.box); (try obtain ⟨z0, z1, z2, z3, z4, z5, z6⟩ := HZ.box); (try obtain ⟨a0, a1, a2, a3, a4, a5, a6⟩ := HA.box)))
  have hc := below_two (w := Wq) (.cells #[.int .u8 3, .string ⟨#[]⟩, .bool false, .string ⟨#[]⟩, .slice none 0 0, .int .i64 0, .slice none 0 0] 27) (.cells #[.int .u8 5, .string ⟨#[120]⟩, .bool false, .string boolN, .slice none 0 0, .int .i64 0, .slice (some ⟨Wq.heap.size, 0, none⟩) 1 1] 27)
  (try have HX := HX.later hc); (try have HY := HY.later hc); (try have HZ := HZ.later hc); (try have HA := HA.later hc); (try have HB := HB.later hc); (try (have BU := blk_below BU hc; have HU := Tr.later HU hc)); (try have HC := HC.later hc); have hbw := below_step hbw hc
  have HM := blk_top (w := Wq) (.cells #[.int .u8 3, .string ⟨#[]⟩, .bool false, .string ⟨#[]⟩, .slice none 0 0, .int .i64 0, .slice none 0 0] 27) (.cells #[.int .u8 5, .string ⟨#[120]⟩, .bool false, .string boolN, .slice none 0 0, .int .i64 0, .slice (some ⟨Wq.heap.size, 0, none⟩) 1 1] 27)
  have HMr : RdM ((Wq.alloc (.cells #[.int .u8 3, .string ⟨#[]⟩, .bool false, .string ⟨#[]⟩, .slice none 0 0, .int .i64 0, .slice none 0 0] 27)).alloc (.cells #[.int .u8 5, .string ⟨#[120]⟩, .bool false, .string boolN, .slice none 0 0, .int .i64 0, .slice (some ⟨Wq.heap.size, 0, none⟩) 1 1] 27)) wantM none 0 (some ⟨Wq.heap.size, 0, none⟩) 1 := ⟨⟨nilC _ _, Nat.le_refl _⟩, row_oneM (y := ⟨3, ⟨#[]⟩, ⟨false, ⟨#[]⟩, []⟩, 0, []⟩) (A := none) (c := 0) (B := none) (d := 0) (blk_mid (w := Wq) (.cells #[.int .u8 3, .string ⟨#[]⟩, .bool false, .string ⟨#[]⟩, .slice none 0 0, .int .i64 0, .slice none 0 0] 27) (.cells #[.int .u8 5, .string ⟨#[120]⟩, .bool false, .string boolN, .slice none 0 0, .int .i64 0, .slice (some ⟨Wq.heap.size, 0, none⟩) 1 1] 27)) ⟨⟨nilC _ _, Nat.le_refl _⟩, Kd.F_now (nilFM none _ (fun _ => True)), Nat.le_refl _⟩, Nat.le_refl _⟩
  generalize (Wq.alloc (.cells #[.int .u8 3, .string ⟨#[]⟩, .bool false, .string ⟨#[]⟩, .slice none 0 0, .int .i64 0, .slice none 0 0] 27)).alloc (.cells #[.int .u8 5, .string ⟨#[120]⟩, .bool false, .string boolN, .slice none 0 0, .int .i64 0, .slice (some ⟨Wq.heap.size, 0, none⟩) 1 1] 27) = Wk at *
  have hD := below_drew1 (Below.refl Wk.heap.size Wk)
  have hK0 : AlM w Wk ta tb tc vz u Wta.heap.size (Wq.heap.size + 1) Wq.heap.size Wtb.heap.size Wtc.heap.size Wvz.heap.size Wu.heap.size Aa Ab Ac Az Ba Bb Bc Bz Au ca cb cc cz da db dc dz cu Wk.drew := AlM.step ⟨⟨HA.box, HB.box, HC.box, HZ.box⟩, box7 HM, ⟨(blk_cell BU 0).trans rfl, (blk_cell BU 1).trans rfl, (blk_cell BU 2).trans rfl⟩, Below.refl _ _, hbw⟩ hD
  have rA := HA.2
  have rB := HB.2
  have rC := HC.2
  have rZ := HZ.2
  have cE : ∀ W, AlM w Wk ta tb tc vz u Wta.heap.size (Wq.heap.size + 1) Wq.heap.size Wtb.heap.size Wtc.heap.size Wvz.heap.size Wu.heap.size Aa Ab Ac Az Ba Bb Bc Bz Au ca cb cc cz da db dc dz cu W → Calls Try.prog 34 #[.agg #[.int .u8 ta.f0, .string ta.f1, .bool ta.f2.f0, .string ta.f2.f1, .slice Aa ta.f2.f2.length ca, .int .i64 ta.f3, .slice Ba ta.f4.length da], .agg #[.int .u8 5, .string ⟨#[120]⟩, .bool false, .string boolN, .slice none 0 0, .int .i64 0, .slice (some ⟨Wq.heap.size, 0, none⟩) 1 1]] W (fun e w' => e = .returned (.bool true) ∧ AlM w Wk ta tb tc vz u Wta.heap.size (Wq.heap.size + 1) Wq.heap.size Wtb.heap.size Wtc.heap.size Wvz.heap.size Wu.heap.size Aa Ab Ac Az Ba Bb Bc Bz Au ca cb cc cz da db dc dz cu w') := fun W hw => (sequentref02_Exact.calls ke ta.f0 ta.f1 ta.f2.f0 ta.f2.f1 Aa ca ta.f2.f2 ta.f3 Ba da ta.f4 wantM.f0 wantM.f1 wantM.f2.f0 wantM.f2.f1 none 0 wantM.f2.f2 wantM.f3 (some ⟨Wq.heap.size, 0, none⟩) 1 wantM.f4 true W (rA.later hw.2.2.2.1).1.1 rA.1.2 (rA.later hw.2.2.2.1).2.1 rA.2.2 (HMr.later hw.2.2.2.1).1.1 HMr.1.2 (HMr.later hw.2.2.2.1).2.1 HMr.2.2 hke).mono (fun _ _ h => And.intro h.1 (hw.step h.2))
  have cS : ∀ W, AlM w Wk ta tb tc vz u Wta.heap.size (Wq.heap.size + 1) Wq.heap.size Wtb.heap.size Wtc.heap.size Wvz.heap.size Wu.heap.size Aa Ab Ac Az Ba Bb Bc Bz Au ca cb cc cz da db dc dz cu W → Calls Try.prog 18 #[.agg #[.int .u8 ta.f0, .string ta.f1, .bool ta.f2.f0, .string ta.f2.f1, .slice Aa ta.f2.f2.length ca, .int .i64 ta.f3, .slice Ba ta.f4.length da], .agg #[.int .u8 tb.f0, .string tb.f1, .bool tb.f2.f0, .string tb.f2.f1, .slice Ab tb.f2.f2.length cb, .int .i64 tb.f3, .slice Bb tb.f4.length db]] W (fun e w' => e = .returned (.bool true) ∧ AlM w Wk ta tb tc vz u Wta.heap.size (Wq.heap.size + 1) Wq.heap.size Wtb.heap.size Wtc.heap.size Wvz.heap.size Wu.heap.size Aa Ab Ac Az Ba Bb Bc Bz Au ca cb cc cz da db dc dz cu w') := fun W hw => (hs ▸ sameM_tr ta tb _ _ W ⟨_, _, _, _, rfl, rA.later hw.2.2.2.1⟩ ⟨_, _, _, _, rfl, rB.later hw.2.2.2.1⟩).mono (fun _ _ h => And.intro h.1 (hw.step h.2))
  have cS2 : ∀ W, AlM w Wk ta tb tc vz u Wta.heap.size (Wq.heap.size + 1) Wq.heap.size Wtb.heap.size Wtc.heap.size Wvz.heap.size Wu.heap.size Aa Ab Ac Az Ba Bb Bc Bz Au ca cb cc cz da db dc dz cu W → Calls Try.prog 18 #[.agg #[.int .u8 tc.f0, .string tc.f1, .bool tc.f2.f0, .string tc.f2.f1, .slice Ac tc.f2.f2.length cc, .int .i64 tc.f3, .slice Bc tc.f4.length dc], .agg #[.int .u8 vz.f0, .string vz.f1, .bool vz.f2.f0, .string vz.f2.f1, .slice Az vz.f2.f2.length cz, .int .i64 vz.f3, .slice Bz vz.f4.length dz]] W (fun e w' => e = .returned (.bool true) ∧ AlM w Wk ta tb tc vz u Wta.heap.size (Wq.heap.size + 1) Wq.heap.size Wtb.heap.size Wtc.heap.size Wvz.heap.size Wu.heap.size Aa Ab Ac Az Ba Bb Bc Bz Au ca cb cc cz da db dc dz cu w') := fun W hw => (hs2 ▸ sameM_tr tc vz _ _ W ⟨_, _, _, _, rfl, rC.later hw.2.2.2.1⟩ ⟨_, _, _, _, rfl, rZ.later hw.2.2.2.1⟩).mono (fun _ _ h => And.intro h.1 (hw.step h.2))
  have cT : ∀ r W, Tr W r ⟨false, funN, [tBl, tBl]⟩ → AlM w Wk ta tb tc vz u Wta.heap.size (Wq.heap.size + 1) Wq.heap.size Wtb.heap.size Wtc.heap.size Wvz.heap.size Wu.heap.size Aa Ab Ac Az Ba Bb Bc Bz Au ca cb cc cz da db dc dz cu W → Calls Try.prog 52 #[.agg #[.bool u.f0, .string u.f1, .slice Au u.f2.length cu], r] W (fun e w' => e = .returned (.bool true) ∧ AlM w Wk ta tb tc vz u Wta.heap.size (Wq.heap.size + 1) Wq.heap.size Wtb.heap.size Wtc.heap.size Wvz.heap.size Wu.heap.size Aa Ab Ac Az Ba Bb Bc Bz Au ca cb cc cz da db dc dz cu w') := fun r W hr hw => (ht ▸ same_tr u _ _ _ W (HU.later hw.2.2.2.1) hr).mono (fun _ _ h => And.intro h.1 (hw.step h.2))
  have cB : ∀ W, AlM w Wk ta tb tc vz u Wta.heap.size (Wq.heap.size + 1) Wq.heap.size Wtb.heap.size Wtc.heap.size Wvz.heap.size Wu.heap.size Aa Ab Ac Az Ba Bb Bc Bz Au ca cb cc cz da db dc dz cu W → Calls Try.prog 41 #[] W (fun e w' => e = .returned (.agg #[.bool false, .string boolN, .slice none 0 0]) ∧ AlM w Wk ta tb tc vz u Wta.heap.size (Wq.heap.size + 1) Wq.heap.size Wtb.heap.size Wtc.heap.size Wvz.heap.size Wu.heap.size Aa Ab Ac Az Ba Bb Bc Bz Au ca cb cc cz da db dc dz cu w') := fun W hw => (bool_calls W).mono (fun _ _ h => And.intro h.1 (hw.step h.2))
  have cF : ∀ W, AlM w Wk ta tb tc vz u Wta.heap.size (Wq.heap.size + 1) Wq.heap.size Wtb.heap.size Wtc.heap.size Wvz.heap.size Wu.heap.size Aa Ab Ac Az Ba Bb Bc Bz Au ca cb cc cz da db dc dz cu W → Calls Try.prog 42 #[.agg #[.bool false, .string boolN, .slice none 0 0], .agg #[.bool false, .string boolN, .slice none 0 0]] W (fun e w' => ∃ r, e = .returned r ∧ Tr w' r ⟨false, funN, [tBl, tBl]⟩ ∧ AlM w Wk ta tb tc vz u Wta.heap.size (Wq.heap.size + 1) Wq.heap.size Wtb.heap.size Wtc.heap.size Wvz.heap.size Wu.heap.size Aa Ab Ac Az Ba Bb Bc Bz Au ca cb cc cz da db dc dz cu w') := fun W hw => (fun_tr tBl tBl _ _ W (Tr.leaf false boolN W) (Tr.leaf false boolN W) (by decide) (by decide)).mono (fun _ _ h => by obtain ⟨r, h1, h2, h3⟩ := h; exact ⟨r, h1, h2, hw.step h3⟩)
  clear qx qy qz qa qb qu qc hs ht hs2 hke HX HY HZ HA HB HC HU BU HM HMr rA rB rC rZ hbw hc
  go_region_held3 (fun W => AlM w Wk ta tb tc vz u Wta.heap.size (Wq.heap.size + 1) Wq.heap.size Wtb.heap.size Wtc.heap.size Wvz.heap.size Wu.heap.size Aa Ab Ac Az Ba Bb Bc Bz Au ca cb cc cz da db dc dz cu W)
    (first | (with_reducible exact hK0) | (with_reducible assumption))
    (first
      | (go_at_call 34; (with_reducible refine (cE _ (by with_reducible assumption)).mono ?_); rintro e W1 ⟨rfl, hN⟩)
      | (go_at_call 18; (with_reducible refine (cS _ (by with_reducible assumption)).mono ?_); rintro e W1 ⟨rfl, hN⟩)
      | (go_at_call 18; (with_reducible refine (cS2 _ (by with_reducible assumption)).mono ?_); rintro e W1 ⟨rfl, hN⟩)
      | (go_at_call 41; (with_reducible refine (cB _ (by with_reducible assumption)).mono ?_); rintro e W1 ⟨rfl, hN⟩)
      | (go_at_call 42; (with_reducible refine (cF _ (by with_reducible assumption)).mono ?_); rintro e W1 ⟨r, rfl, HF, hN⟩)
      | (go_at_call 52; (with_reducible refine (cT _ _ HF (by with_reducible assumption)).mono ?_); rintro e W1 ⟨rfl, hN⟩))
  clear cE cS cS2 cT cB cF
  go_wp2
  go_ret
  exact ⟨rfl, hN.2.2.2.2⟩
def vM (n : ByteArray) : S27 := ⟨1, n, tBl, 0, []⟩
def lM (n : ByteArray) : S27 := ⟨5, n, tBl, 0, [⟨3, noN, zT, 0, []⟩]⟩
theorem fit_vM (n : ByteArray) (h : okS n) : fitM (vM n) := ⟨allM_mk ⟨h, fitBl, by show szT tBl ≤ 1000000; decide, by show _ ≤ (0 : Int); omega, by show (0 : Int) ≤ _; omega⟩ (fun x hx => by cases hx), by show szM (vM n) ≤ _; rw [szM_eq]; simp [vM, szML]⟩
theorem fit_lM (n : ByteArray) (h : okS n) : fitM (lM n) := by
  refine ⟨allM_mk ⟨h, fitBl, by show szT tBl ≤ 1000000; decide, by show _ ≤ (0 : Int); omega, by show (0 : Int) ≤ _; omega⟩ (fun x hx => ?_), by rw [szM_eq]; simp [lM, szML, szM]⟩
  obtain rfl : x = ⟨3, noN, zT, 0, []⟩ := by simpa [lM] using hx
  exact allM_mk (fitN_bound 0 (by omega) (by omega)) (fun x hx => by cases hx)
set_option maxRecDepth 100000 in
theorem aliveM_calls (w : World) : Calls Try.prog 15 #[] w fun e w' => e = .returned (.bool true) ∧ Below w.heap.size w w' :=
  aliveM_of w (vM nX) (vM nY) (vM nZ) (lM nX) (lM nY) (vM nZ) ⟨false, funN, [tBl, tBl]⟩ (by kernel_rfl) (by kernel_rfl) (by kernel_rfl) (by kernel_rfl) (by kernel_rfl) (by kernel_rfl) (by kernel_rfl) (by kernel_rfl)
    (fit_vM _ (by unfold okS nX; decide)) (fit_vM _ (by unfold okS nY; decide)) (fit_vM _ (by unfold okS nZ; decide)) (fit_lM _ (by unfold okS nX; decide)) (by kernel_rfl) (by kernel_rfl) (by kernel_rfl) (by kernel_rfl)
end Go.Proofs.Ytecplbgdalchdaa.Q
/- Proved here: the contract of the walker's note. Conditions: those that each theorem names. -/
namespace Go.Proofs.Ytecplbgdalchdaa.Q
open Go.RowKit Go.Shelf Go.Proofs.YtecplbgdalchdaaW.PrintWords Go.Proofs.YtecplbgdalchdaaW.PrintMore
set_option linter.unusedVariables false
set_option linter.unusedSimpArgs false
attribute [local go_sem] Oper.semAt_some


def Lock4 (p : Prop) : Prop := p
theorem lock4_ {p : Prop} (h : Lock4 p) : p := h
theorem leafy_iff (k : Int) : leafy k = true ↔ (k = 1 ∨ k = 2 ∨ k = 5) := by unfold leafy; simp [or_assoc]
theorem addNs_take (l ts : List ByteArray) (j : Nat) (h : j < l.length) : addNs (l.take (j + 1)) ts = addN (addNs (l.take j) ts) l[j] := by
  rw [List.take_succ_eq_append_getElem h]
  exact List.foldl_append ..
theorem addNs_len : ∀ (l ts : List ByteArray), (addNs l ts).length ≤ ts.length + l.length
  | [], ts => by simp [addNs]
  | a :: l, ts => by
    have h := addNs_len l (addN ts a)
    have h2 : (addN ts a).length ≤ ts.length + 1 := by unfold addN; split <;> simp
    simp only [addNs, List.foldl_cons, List.length_cons] at h ⊢
    omega
theorem rdOf_get (l : List ByteArray) (j : Nat) (h : j < l.length) : rdOf ByteArray.empty l (j : Int) = l[j] := by
  unfold rdOf
  simp only [Int.toNat_natCast]
  rw [List.getD_eq_getElem?_getD, List.getElem?_eq_getElem h]
  rfl
theorem StrR.kept {W0 W4 wr : World} {g : Nat} {v : Value} {l : List ByteArray} {base : Nat} {vs : List S27} {ts : List ByteArray} (hg : g < W0.heap.size) (hS : NtS base g vs ts W0) (hb : Below W0.heap.size W0 W4) (h : StrR W4 W0.heap.size v l) (hk : NtK g W4 wr) : StrR wr W0.heap.size v l := by
  have hvb : ∀ k, v.ownBlock = some k → W0.heap.size ≤ k := fun k hk => by
    obtain ⟨_, _, ho, _⟩ := h
    exact own_base ho k hk
  exact Kd.R_mono (Kd.R_step (Kd.R_tight (by rfl) h) (fun k he hlt => hk.keep k hlt (by have := hvb k he.symm; omega) (hS.not_row hb (hvb k he.symm)))) (fun _ _ => trivial)
/-- The type variables of a type, in a row of the call's own. -/
theorem vars_own (t : S24) (hf : fit t) (hc : chkB t = true) (a : Value) (w : World) (ha : Tr w a t) : Calls Try.prog 53 #[a] w fun e w' => ∃ v, e = .returned (.tuple #[v, .int .i64 0]) ∧ StrR w' w.heap.size v (varsL (preT t) []) ∧ Below w.heap.size w w' := by
  obtain ⟨A, c, rfl, hl, hA⟩ := ha
  obtain ⟨k, hk⟩ := (vars_ev t hf).at
  have hv : varsF t = (varsL (preT t) [], 0) := by unfold varsF; rw [if_pos hc]
  rw [hv] at hk
  exact types_Vars.calls k t.f0 t.f1 A c t.f2 _ _ w hA hl hk
set_option maxHeartbeats 8000000 in
set_option maxRecDepth 100000 in
theorem note_calls (x : S27) (hf : fitM x) (hk : (x.f0 = 3 ∨ x.f0 = 4) ∨ ((x.f0 = 1 ∨ x.f0 = 2 ∨ x.f0 = 5) ∧ chkB x.f2 = true)) (base g : Nat) (vs : List S27) (ts : List ByteArray) (A : Option Addr) (c : Nat) (B : Option Addr) (d : Nat) (w : World) (hgb : g < base) (hbs : base ≤ w.heap.size) (hS : NtS base g vs ts w) (hX : RdF w (fun k => k < g) x A c B d) (hvl : vs.length ≤ 1000000) (htl : ts.length + szT x.f2 ≤ 1000000000000) :
    Calls Try.prog 101 #[.pointer (some ⟨g, 0, none⟩), .agg #[.int .u8 x.f0, .string x.f1, .bool x.f2.f0, .string x.f2.f1, .slice A x.f2.f2.length c, .int .i64 x.f3, .slice B x.f4.length d]] w fun e w' => e = .returned (.tuple #[]) ∧ NtS base g (frStep vs x) (tvStep ts x) w' ∧ NtK g w w' := by
  have hb0 := below_one (w := w) (.cells #[.int .u8 x.f0, .string x.f1, .bool x.f2.f0, .string x.f2.f1, .slice A x.f2.f2.length c, .int .i64 x.f3, .slice B x.f4.length d] 27)
  have BX := blk_new w (.cells #[.int .u8 x.f0, .string x.f1, .bool x.f2.f0, .string x.f2.f1, .slice A x.f2.f2.length c, .int .i64 x.f3, .slice B x.f4.length d] 27)
  have hS0 := hS.later hb0
  have hgw : g < w.heap.size := by omega
  have hK0 := NtK.of_below hgw hb0
  have hX0 := hX.later hb0
  have hnr : ∀ W, Below (w.alloc (.cells #[.int .u8 x.f0, .string x.f1, .bool x.f2.f0, .string x.f2.f1, .slice A x.f2.f2.length c, .int .i64 x.f3, .slice B x.f4.length d] 27)).heap.size (w.alloc (.cells #[.int .u8 x.f0, .string x.f1, .bool x.f2.f0, .string x.f2.f1, .slice A x.f2.f2.length c, .int .i64 x.f3, .slice B x.f4.length d] 27)) W → ¬ NtR W g w.heap.size := fun W hW => hS.not_row (below_step hb0 hW) (Nat.le_refl _)
  have hXW := fun W (hW : NtK g w W) => hX.step (fun k hk _ => hW.below.block k hk)
  have hn1 : ∀ l : List ByteArray, tvStep ts x = (if leafy x.f0 = true then varsL (preT x.f2) ts else ts) := fun _ => rfl
  have hfr : frStep vs x = if x.f0 = 1 then (if hasM vs x = true then vs else vs ++ [x]) else vs := rfl
  obtain ⟨v, u, hB, hV, hU⟩ := id hS0
  obtain ⟨RA, rc, rfl, hrl, hCv⟩ := hV.reads
  obtain ⟨RB, rd, rfl, hul, hCu⟩ := Kd.R_reads hU
  obtain ⟨x0, x1, x2, x3, x4, x5, x6⟩ := box7 BX
  have w0 := (blk_cell hB 0).trans rfl
  have w1 := (blk_cell hB 1).trans rfl
  rcases hk with hk | ⟨hk, hcB⟩
  · have hl : leafy x.f0 = false := by rw [Bool.eq_false_iff]; intro h; have := (leafy_iff _).1 h; omega
    have htv : tvStep ts x = ts := by unfold tvStep; rw [hl]; rfl
    rw [hfr, htv, if_neg (show ¬ x.f0 = 1 by omega)]
    have k1 : (x.f0 == 1) = false := beq_eq_false_iff_ne.mpr (by omega)
    have hk' : ((x.f0 == 4) = true) ∨ ((x.f0 == 4) = false ∧ (x.f0 == 3) = true) := by
      rcases hk with h | h
      · exact .inr ⟨beq_eq_false_iff_ne.mpr (by omega), by rw [h]; rfl⟩
      · exact .inl (by rw [h]; rfl)
    have HS := Aside0.mk hS0
    have HK := Aside0.mk hK0
    clear hS hS0 hK0 hX hX0 hXW hn1 hfr hV hU hf hnr hk hl htv hCv hCu hb0
    rcases hk' with k4 | ⟨k4, k3⟩
    all_goals
      go_enter Try.func101, Try.ntmps101
      go_wp2_with fail
      refine bodyPost_ret (v := .tuple #[]) (by simp [results, Try.results101, go_sem]) rfl ?_
      exact ⟨rfl, HS.out, HK.out⟩
  have hl : leafy x.f0 = true := (leafy_iff _).2 hk
  have htv : tvStep ts x = addNs (varsL (preT x.f2) []) ts := by unfold tvStep; rw [if_pos hl, addNs_vars]
  have k4 : (x.f0 == 4) = false := beq_eq_false_iff_ne.mpr (by omega)
  have k3 : (x.f0 == 3) = false := beq_eq_false_iff_ne.mpr (by omega)
  have hft : fit x.f2 := (allM_top hf.1).2.1
  have evr := fun W (hW : NtK g w W) => vars_own x.f2 hft hcB _ W (RdM.ty (hXW W hW).rd)
  have hvl2 : (varsL (preT x.f2) []).length ≤ szT x.f2 := by have := varsL_len (preT x.f2) []; rw [preT_length] at this; simpa using this
  rw [htv]
  have HTL := Lib.hid htl
  have HLL := Lib.hid hvl2
  by_cases h1 : x.f0 = 1
  · have k1 : (x.f0 == 1) = true := by rw [h1]; rfl
    have hsc := fun W (hW : Below (w.alloc (.cells #[.int .u8 x.f0, .string x.f1, .bool x.f2.f0, .string x.f2.f1, .slice A x.f2.f2.length c, .int .i64 x.f3, .slice B x.f4.length d] 27)).heap.size (w.alloc (.cells #[.int .u8 x.f0, .string x.f1, .bool x.f2.f0, .string x.f2.f1, .slice A x.f2.f2.length c, .int .i64 x.f3, .slice B x.f4.length d] 27)) W) => hasM_calls vs x RA rc A c B d w.heap.size W (Kd.C_below hCv hW) (blk_below BX hW) (hX0.rd.later hW)
    have hgW0 : g < (w.alloc (.cells #[.int .u8 x.f0, .string x.f1, .bool x.f2.f0, .string x.f2.f1, .slice A x.f2.f2.length c, .int .i64 x.f3, .slice B x.f4.length d] 27)).heap.size := hB.lt
    have etw := fun W (hW : NtK g w W) => twinM_calls _ x A c B d W (Nat.le_refl _) hf (hXW W hW).rd
    have HV := Aside0.mk hV
    have HU := Aside0.mk hU
    have HK0 := Aside0.mk hK0
    have HS0 := Aside0.mk hS0
    have HVL := Lib.hid hvl
    clear hS hS0 hK0 hX hX0 hXW hn1 hV hU hk hl htv hCv hCu hft hcB hf hb0 hvl htl hvl2
    cases hh : hasM vs x with
    | true =>
      rw [hh] at hsc
      rw [hfr, if_pos h1, if_pos hh]
      clear etw hfr hh h1 hnr
      go_enter Try.func101, Try.ntmps101
      go_wp2_with (first | (go_at_call 144; (with_reducible refine (hsc _ (Below.refl _ _)).mono ?_); rintro e W1 ⟨rfl, hb1⟩; have HBX1 := Aside0.mk (blk_below BX hb1); have HBW1 := Aside0.mk (show NtB W1 g _ _ from blk_below hB hb1); obtain ⟨x0, x1, x2, x3, x4, x5, x6⟩ := box7 HBX1.out; have w0 := (blk_cell HBW1.out 0).trans rfl; have w1 := (blk_cell HBW1.out 1).trans rfl; have HS2 := Aside0.mk (HS0.out.later hb1); have HK2 := Aside0.mk (HK0.out.trans (NtK.of_below hgW0 hb1))) | (go_at_call 53; (with_reducible refine (evr _ HK2.out).mono ?_); rintro e W4 ⟨v4, rfl, hL, hb4⟩; obtain ⟨RL, rl, hv4, hll, hCL⟩ := Kd.R_reads hL; subst hv4))
      have HS3 := HS2.out
      have hgW := Nat.lt_of_lt_of_le hgw HK2.out.size
      have HS4 := HS3.later hb4
      have HK4 := HK2.out.trans (NtK.of_below hgW hb4)
      have HLR := Aside0.mk (fun wr (hk : NtK g W4 wr) => StrR.kept hgW HS3 hb4 hL hk)
      clear hCL HS3 hL HS2 HK2
      generalize hLq : varsL (preT x.f2) [] = L at *
      have HLQ := Lib.hid hLq
      clear hLq
      go_loopg [7, 48] L.length (fun gg _ v48 wr => ∃ kk : Nat, kk ≤ L.length ∧ gg + kk = L.length ∧ v48 = .int .i64 (kk : Int) ∧ Aside0 (NtS base g (vs) (addNs (L.take kk) ts) wr) ∧ Aside0 (NtK g W4 wr))
      case atStart => exact ⟨0, by omega, by omega, rfl, ⟨HS4⟩, ⟨⟨Below.refl _ _, fun _ _ _ _ => rfl, fun _ h => .inl h⟩⟩⟩
      case round =>
        obtain ⟨kk, hk1, hk2, rfl, HSr, HKr⟩ := hrel
        clear HS4
        obtain ⟨v, u, hBr, hVr, hUr⟩ := id HSr.out
        obtain ⟨RA', rc', rfl, _, _⟩ := hVr.reads
        obtain ⟨RB', rd', rfl, hul', hCu'⟩ := Kd.R_reads hUr
        have w0 := (blk_cell hBr 0).trans rfl
        have w1 := (blk_cell hBr 1).trans rfl
        have hgl := hBr.lt
        by_cases hkk : kk < L.length
        · have q0 : decide (kk < L.length) = true := decide_eq_true hkk
          obtain ⟨RL2, rl2, he2, _, hCL⟩ := Kd.R_reads (HLR.out wr HKr.out)
          injection he2 with he2 _ he3
          subst he2 he3
          obtain ⟨ad, e1, hx⟩ := Kd.at_string hCL (kk : Int) (by omega) (by omega)
          cases e1
          rw [rdOf_get L kk hkk, Int.toNat_natCast] at hx
          have hnx := addNs_take L ts kk hkk
          have hcl := addNs_len (L.take kk) ts
          rw [List.length_take] at hcl
          have HNX := Lib.hid hnx
          have hcf := contains_f (addNs (L.take kk) ts) L[kk] (by have := HTL.out; have := HLL.out; omega)
          have HCL := Lib.hid hcl
          clear hnx hcl hCL
          generalize L[kk] = s at *
          generalize addNs (L.take kk) ts = cur at *
          have hct := fun W (hW : Below wr.heap.size wr W) => slices_Contains_string_string.calls _ RB' rd' cur s _ W (Kd.C_below hCu' hW) hul' hcf
          clear hCu' hcf
          have hbr := Below.refl wr.heap.size wr
          cases hin : inS cur s with
          | true =>
            rw [hin] at hct
            have hadd : addN cur s = cur := by unfold addN; rw [if_pos hin]
            have HADD := Lib.hid hadd
            clear hadd hin
            go_wp2_with (go_at_call 117; (with_reducible refine (hct _ hbr).mono ?_); rintro e W5 ⟨rfl, hd⟩; have hb5 := hd.below)
            go_roundg (L.length - kk - 1)
            case measure => omega
            case rel => exact ⟨kk + 1, by omega, by omega, by simp <;> exact w64s (by have := HTL.out; have := HLL.out; omega), ⟨by rw [HNX.out, HADD.out]; exact HSr.out.later hb5⟩, ⟨HKr.out.trans (NtK.of_below hgl hb5)⟩⟩
          | false =>
            rw [hin] at hct
            have hadd : addN cur s = cur ++ [s] := by unfold addN; rw [if_neg (by rw [hin]; simp)]
            have HADD := Lib.hid hadd
            clear hadd hin
            go_wp2_with (first | ((with_reducible refine gate_dst (N := 66) rfl ?_); refine lock4_ ?_) | (go_at_call 117; (with_reducible refine (hct _ hbr).mono ?_); rintro e W5 ⟨rfl, hd⟩; have hb5 := hd.below; have hB5 := blk_below hBr hb5; have w0 := (blk_cell hB5 0).trans rfl; have w1 := (blk_cell hB5 1).trans rfl))
            unfold Lock4
            have hS5 := HSr.out.later hb5
            have hbs5 : base ≤ W5.heap.size := Nat.le_trans hbs (Nat.le_trans (HK4.trans HKr.out).size hb5.size)
            refine Kd.R_append Kd.string (w0 := W5) base (by rfl) (.tmp 63) (.tmp 65) 43 9 (.string ⟨#[]⟩) 16 (by rfl) Try.underlying43 info_str (by rfl) (by decide) (by decide) (.slice RB' cur.length rd') cur s [.string s] (fun _ => True) (fun _ => False) (by rfl) (by rfl) rfl (fun _ h => h.elim) (fun _ _ => trivial) (Kd.R_below hUr hb5) (Below.refl _ _) hbs5 (by have := HTL.out; have := HCL.out; have := HLL.out; omega) ?_
            intro v2 W6 hR6 hB6 hg6 hat6
            obtain ⟨RC, re, hv2, _, _⟩ := Kd.R_reads hR6
            rw [show (cur ++ [s]).length = cur.length + 1 by simp] at hv2
            subst hv2
            have hfin := Nt_str hgb hB5 (hVr.later hb5) (Kd.R_below hUr hb5) hR6 hB6 hg6 hat6
            have HFIN := Aside0.mk hfin
            have hB6' : W6.heap[g]? = some (.cells #[.slice RA' (vs).length rc', .slice RB' cur.length rd'] 126 (0, 0)) := (hg6.block g (blk_lt hB5) (fun e => by obtain ⟨_, _, ho, _⟩ := Kd.R_below hUr hb5; have := own_base ho g e.symm; omega)).trans hB5
            clear hfin hR6 hB6 hg6 hat6 w0 w1
            have w0 := (blk_cell hB6' 0).trans rfl
            have w1 := (blk_cell hB6' 1).trans rfl
            have r1 := blk_frozen hB6' 1
            clear hct
            go_wp2_with fail
            go_roundg (L.length - kk - 1)
            case measure => omega
            case rel => exact ⟨kk + 1, by omega, by omega, by simp <;> exact w64s (by have := HTL.out; have := HLL.out; omega), ⟨by rw [HNX.out, HADD.out]; exact HFIN.out.1⟩, ⟨(HKr.out.trans (NtK.of_below hgl hb5)).trans HFIN.out.2⟩⟩
        · have q0 : decide (kk < L.length) = false := decide_eq_false hkk
          obtain rfl : kk = L.length := by omega
          have HSE := HSr.out
          rw [List.take_length] at HSE
          have HSEA := Aside0.mk HSE
          clear HSE hkk
          go_wp2_with fail
          refine bodyPost_end (v := .tuple #[]) (by simp [results, Try.results101, go_sem]) rfl ?_
          exact ⟨rfl, by rw [HLQ.out]; exact HSEA.out, HK4.trans HKr.out⟩
    | false =>
      rw [hh] at hsc
      rw [hfr, if_pos h1, if_neg (by rw [hh]; simp)]
      clear hfr hh h1
      go_enter Try.func101, Try.ntmps101
      go_upto_if 19 with (go_at_call 144; (with_reducible refine (hsc _ (Below.refl _ _)).mono ?_); rintro e W1 ⟨rfl, hb1⟩; have HBX1 := Aside0.mk (blk_below BX hb1); have HBW1 := Aside0.mk (show NtB W1 g _ _ from blk_below hB hb1); obtain ⟨x0, x1, x2, x3, x4, x5, x6⟩ := box7 HBX1.out; have w0 := (blk_cell HBW1.out 0).trans rfl; have w1 := (blk_cell HBW1.out 1).trans rfl; have HS2 := Aside0.mk (HS0.out.later hb1); have HK2 := Aside0.mk (HK0.out.trans (NtK.of_below hgW0 hb1)))
      go_cut [] from 8 (fun wc => Aside0 (NtS base g (vs ++ [x]) ts wc) ∧ Aside0 (NtK g w wc) ∧ BxM wc w.heap.size x A c B d)
      case rest =>
        clear HS2 HK2 x0 x1 x2 x3 x4 x5 x6 w0 w1 hsc etw HBX1 HBW1
        obtain ⟨HS2, HK2, x0, x1, x2, x3, x4, x5, x6⟩ := hcut
        have w0 := trivial
        have w1 := trivial
        go_wp2_with (go_at_call 53; (with_reducible refine (evr _ HK2.out).mono ?_); rintro e W4 ⟨v4, rfl, hL, hb4⟩; obtain ⟨RL, rl, hv4, hll, hCL⟩ := Kd.R_reads hL; subst hv4)
        have HS3 := HS2.out
        have hgW := Nat.lt_of_lt_of_le hgw HK2.out.size
        have HS4 := HS3.later hb4
        have HK4 := HK2.out.trans (NtK.of_below hgW hb4)
        have HLR := Aside0.mk (fun wr (hk : NtK g W4 wr) => StrR.kept hgW HS3 hb4 hL hk)
        clear hCL HS3 hL HS2 HK2
        generalize hLq : varsL (preT x.f2) [] = L at *
        have HLQ := Lib.hid hLq
        clear hLq
        go_loopg [7, 48] L.length (fun gg _ v48 wr => ∃ kk : Nat, kk ≤ L.length ∧ gg + kk = L.length ∧ v48 = .int .i64 (kk : Int) ∧ Aside0 (NtS base g (vs ++ [x]) (addNs (L.take kk) ts) wr) ∧ Aside0 (NtK g W4 wr))
        case atStart => exact ⟨0, by omega, by omega, rfl, ⟨HS4⟩, ⟨⟨Below.refl _ _, fun _ _ _ _ => rfl, fun _ h => .inl h⟩⟩⟩
        case round =>
          obtain ⟨kk, hk1, hk2, rfl, HSr, HKr⟩ := hrel
          clear HS4
          obtain ⟨v, u, hBr, hVr, hUr⟩ := id HSr.out
          obtain ⟨RA', rc', rfl, _, _⟩ := hVr.reads
          obtain ⟨RB', rd', rfl, hul', hCu'⟩ := Kd.R_reads hUr
          have w0 := (blk_cell hBr 0).trans rfl
          have w1 := (blk_cell hBr 1).trans rfl
          have hgl := hBr.lt
          by_cases hkk : kk < L.length
          · have q0 : decide (kk < L.length) = true := decide_eq_true hkk
            obtain ⟨RL2, rl2, he2, _, hCL⟩ := Kd.R_reads (HLR.out wr HKr.out)
            injection he2 with he2 _ he3
            subst he2 he3
            obtain ⟨ad, e1, hx⟩ := Kd.at_string hCL (kk : Int) (by omega) (by omega)
            cases e1
            rw [rdOf_get L kk hkk, Int.toNat_natCast] at hx
            have hnx := addNs_take L ts kk hkk
            have hcl := addNs_len (L.take kk) ts
            rw [List.length_take] at hcl
            have HNX := Lib.hid hnx
            have hcf := contains_f (addNs (L.take kk) ts) L[kk] (by have := HTL.out; have := HLL.out; omega)
            have HCL := Lib.hid hcl
            clear hnx hcl hCL
            generalize L[kk] = s at *
            generalize addNs (L.take kk) ts = cur at *
            have hct := fun W (hW : Below wr.heap.size wr W) => slices_Contains_string_string.calls _ RB' rd' cur s _ W (Kd.C_below hCu' hW) hul' hcf
            clear hCu' hcf
            have hbr := Below.refl wr.heap.size wr
            cases hin : inS cur s with
            | true =>
              rw [hin] at hct
              have hadd : addN cur s = cur := by unfold addN; rw [if_pos hin]
              have HADD := Lib.hid hadd
              clear hadd hin
              go_wp2_with (go_at_call 117; (with_reducible refine (hct _ hbr).mono ?_); rintro e W5 ⟨rfl, hd⟩; have hb5 := hd.below)
              go_roundg (L.length - kk - 1)
              case measure => omega
              case rel => exact ⟨kk + 1, by omega, by omega, by simp <;> exact w64s (by have := HTL.out; have := HLL.out; omega), ⟨by rw [HNX.out, HADD.out]; exact HSr.out.later hb5⟩, ⟨HKr.out.trans (NtK.of_below hgl hb5)⟩⟩
            | false =>
              rw [hin] at hct
              have hadd : addN cur s = cur ++ [s] := by unfold addN; rw [if_neg (by rw [hin]; simp)]
              have HADD := Lib.hid hadd
              clear hadd hin
              go_wp2_with (first | ((with_reducible refine gate_dst (N := 66) rfl ?_); refine lock4_ ?_) | (go_at_call 117; (with_reducible refine (hct _ hbr).mono ?_); rintro e W5 ⟨rfl, hd⟩; have hb5 := hd.below; have hB5 := blk_below hBr hb5; have w0 := (blk_cell hB5 0).trans rfl; have w1 := (blk_cell hB5 1).trans rfl))
              unfold Lock4
              have hS5 := HSr.out.later hb5
              have hbs5 : base ≤ W5.heap.size := Nat.le_trans hbs (Nat.le_trans (HK4.trans HKr.out).size hb5.size)
              refine Kd.R_append Kd.string (w0 := W5) base (by rfl) (.tmp 63) (.tmp 65) 43 9 (.string ⟨#[]⟩) 16 (by rfl) Try.underlying43 info_str (by rfl) (by decide) (by decide) (.slice RB' cur.length rd') cur s [.string s] (fun _ => True) (fun _ => False) (by rfl) (by rfl) rfl (fun _ h => h.elim) (fun _ _ => trivial) (Kd.R_below hUr hb5) (Below.refl _ _) hbs5 (by have := HTL.out; have := HCL.out; have := HLL.out; omega) ?_
              intro v2 W6 hR6 hB6 hg6 hat6
              obtain ⟨RC, re, hv2, _, _⟩ := Kd.R_reads hR6
              rw [show (cur ++ [s]).length = cur.length + 1 by simp] at hv2
              subst hv2
              have hfin := Nt_str hgb hB5 (hVr.later hb5) (Kd.R_below hUr hb5) hR6 hB6 hg6 hat6
              have HFIN := Aside0.mk hfin
              have hB6' : W6.heap[g]? = some (.cells #[.slice RA' (vs ++ [x]).length rc', .slice RB' cur.length rd'] 126 (0, 0)) := (hg6.block g (blk_lt hB5) (fun e => by obtain ⟨_, _, ho, _⟩ := Kd.R_below hUr hb5; have := own_base ho g e.symm; omega)).trans hB5
              clear hfin hR6 hB6 hg6 hat6 w0 w1
              have w0 := (blk_cell hB6' 0).trans rfl
              have w1 := (blk_cell hB6' 1).trans rfl
              have r1 := blk_frozen hB6' 1
              clear hct
              go_wp2_with fail
              go_roundg (L.length - kk - 1)
              case measure => omega
              case rel => exact ⟨kk + 1, by omega, by omega, by simp <;> exact w64s (by have := HTL.out; have := HLL.out; omega), ⟨by rw [HNX.out, HADD.out]; exact HFIN.out.1⟩, ⟨(HKr.out.trans (NtK.of_below hgl hb5)).trans HFIN.out.2⟩⟩
          · have q0 : decide (kk < L.length) = false := decide_eq_false hkk
            obtain rfl : kk = L.length := by omega
            have HSE := HSr.out
            rw [List.take_length] at HSE
            have HSEA := Aside0.mk HSE
            clear HSE hkk
            go_wp2_with fail
            refine bodyPost_end (v := .tuple #[]) (by simp [results, Try.results101, go_sem]) rfl ?_
            exact ⟨rfl, by rw [HLQ.out]; exact HSEA.out, HK4.trans HKr.out⟩
      case first =>
      go_wp2_with fail
      have hgW1 := HBW1.out.lt
      have HK1 := HK2
      have et := fun W (hW : Below W1.heap.size W1 W) => etw W (HK1.out.trans (NtK.of_below hgW1 hW))
      have HV1 := Aside0.mk (HV.out.later hb1)
      have HU1 := Aside0.mk (Kd.R_below HU.out hb1)
      have hbW1 := hb1
      have HBS1 := Aside0.mk (Nat.le_trans hbs HK1.out.size)
      have hD := below_drew1 (Below.refl W1.heap.size W1)
      have hbc := hD
      have hBc := blk_below HBW1.out hD
      have hXc := blk_below HBX1.out hD
      clear HS2 HK2 hsc etw HV HU HK0 HS0 w0 w1 x0 x1 x2 x3 x4 x5 x6 BX hB
      refine wp_region_held_drew (S := fun W => BxM W w.heap.size x A c B d) (by kernel_rfl) (by exact box7 hXc) (fun hHeld => ?_)
      refine wpAnyH_take (i := 0) (oi := { dst := some 20, op := Op.move (Operand.tmp 0), type := 180, pos := "terms.go:113", after := #[], guard := none }) (v := ?_) rfl (by kernel_rfl) (by kernel_rfl) (by kernel_rfl) (fun _ _ _ h => h) (Or.inl ⟨by rfl, ?_⟩) (by assumption) ?_
      rotate_left
      · intro w' hSw; (try dsimp only at hSw); go_simp; try with_reducible rfl
      try simp only [Act.put, List.setIfInBounds_toArray, List.set_cons_zero, List.set_cons_succ]
      refine wpAnyH_take (i := 1) (oi := { dst := some 21, op := Op.nilCheck (Operand.tmp 20), type := 0, pos := "terms.go:113", after := #[{ on := 0, ground := Ground.data }], guard := none }) (v := ?_) rfl (by kernel_rfl) (by kernel_rfl) (by kernel_rfl) (fun _ _ _ h => h) (Or.inl ⟨by rfl, ?_⟩) (by assumption) ?_
      rotate_left
      · intro w' hSw; (try dsimp only at hSw); go_simp; try with_reducible rfl
      try simp only [Act.put, List.setIfInBounds_toArray, List.set_cons_zero, List.set_cons_succ]
      refine wpAnyH_take (i := 2) (oi := { dst := some 22, op := Op.fieldAddr 126 (Operand.tmp 21) 0, type := 0, pos := "terms.go:113", after := #[{ on := 1, ground := Ground.data }], guard := none }) (v := ?_) rfl (by kernel_rfl) (by kernel_rfl) (by kernel_rfl) (fun _ _ _ h => h) (Or.inl ⟨by rfl, ?_⟩) (by assumption) ?_
      rotate_left
      · intro w' hSw; (try dsimp only at hSw); go_simp; try with_reducible rfl
      try simp only [Act.put, List.setIfInBounds_toArray, List.set_cons_zero, List.set_cons_succ]
      refine wpAnyH_take (i := 4) (oi := { dst := some 24, op := Op.load 27 (Operand.tmp 3), type := 27, pos := "terms.go:113", after := #[], guard := none }) (v := ?_) rfl (by kernel_rfl) (by kernel_rfl) (by kernel_rfl) (fun _ _ _ h => h) (Or.inl ⟨by rfl, ?_⟩) (by assumption) ?_
      rotate_left
      · intro w' hSw; (try dsimp only at hSw); go_simp; try with_reducible rfl
      try simp only [Act.put, List.setIfInBounds_toArray, List.set_cons_zero, List.set_cons_succ]
      refine wpAnyH_ready (rs := [3, 5, 7]) (by kernel_rfl) (by simp) ?_
      refine AllReadyH.cons (o := { dst := some 23, op := Op.load 25 (Operand.tmp 22), type := 25, pos := "terms.go:113", after := #[{ on := 2, ground := Ground.data }], guard := none }) rfl (fun K hK => ?_) (AllReadyH.cons (o := { dst := some 25, op := Op.call { callee := Callee.value (Operand.func 28), args := #[Operand.tmp 24], argTypes := #[27] }, type := 27, pos := "terms.go:113", after := #[{ on := 4, ground := Ground.data }], guard := none }) rfl (fun K hK => ?_) (AllReadyH.cons (o := { dst := some 27, op := Op.buildSlice 25 1 #[(0, Operand.const (Value.agg #[Value.int IntKind.u8 0, Value.string { data := #[] }, Value.bool false, Value.string { data := #[] }, Value.slice none 0 0, Value.int IntKind.i64 0, Value.slice none 0 0]))], type := 25, pos := "terms.go:113", after := #[], guard := none }) rfl (fun K hK => ?_) AllReadyH.nil))
      · have wc0 := (blk_cell hBc 0).trans rfl
        go_simp
        refine hK.out _ _ (by exact box7 hXc) (fun hHeld => ?_)
        clear hK K
        try simp only [Act.put, List.setIfInBounds_toArray, List.set_cons_zero, List.set_cons_succ]
        refine wpAnyH_take (i := 6) (oi := { dst := some 26, op := Op.call { callee := Callee.builtin Builtin.len, args := #[Operand.tmp 23], argTypes := #[25] }, type := 3, pos := "terms.go:113", after := #[{ on := 3, ground := Ground.data }], guard := none }) (v := ?_) rfl (by kernel_rfl) (by kernel_rfl) (by kernel_rfl) (fun _ _ _ h => h) (Or.inl ⟨by rfl, ?_⟩) (by assumption) ?_
        rotate_left
        · intro w' hSw; (try dsimp only at hSw); go_simp; try with_reducible rfl
        try simp only [Act.put, List.setIfInBounds_toArray, List.set_cons_zero, List.set_cons_succ]
        refine wpAnyH_ready (rs := [5, 7]) (by kernel_rfl) (by simp) ?_
        refine AllReadyH.cons (o := { dst := some 25, op := Op.call { callee := Callee.value (Operand.func 28), args := #[Operand.tmp 24], argTypes := #[27] }, type := 27, pos := "terms.go:113", after := #[{ on := 4, ground := Ground.data }], guard := none }) rfl (fun K hK => ?_) (AllReadyH.cons (o := { dst := some 27, op := Op.buildSlice 25 1 #[(0, Operand.const (Value.agg #[Value.int IntKind.u8 0, Value.string { data := #[] }, Value.bool false, Value.string { data := #[] }, Value.slice none 0 0, Value.int IntKind.i64 0, Value.slice none 0 0]))], type := 25, pos := "terms.go:113", after := #[], guard := none }) rfl (fun K hK => ?_) AllReadyH.nil)
        · go_simp
          go_wp2_with (go_at_call 28; (with_reducible refine (et _ hbc).mono ?_); rintro e w5 ⟨r5, rfl, hO5, hb5⟩; obtain ⟨vt, vs5, hr5, hT5, hM5⟩ := hO5; subst hr5; obtain ⟨At, ct, hvt, _, _⟩ := hT5.reads; subst hvt; obtain ⟨Bt, dt, hvs, _, _⟩ := hM5.reads; subst hvs)
          have HLT := Aside0.mk hbc.size
          replace hBc := blk_below hBc hb5
          replace hXc := blk_below hXc hb5
          replace hbc := below_step hbc hb5
          refine hK.out _ _ (by exact box7 hXc) (fun hHeld => ?_)
          clear hK K
          try simp only [Act.put, List.setIfInBounds_toArray, List.set_cons_zero, List.set_cons_succ]
          refine wpAnyH_ready (rs := [7]) (by kernel_rfl) (by simp) ?_
          refine AllReadyH.cons (o := { dst := some 27, op := Op.buildSlice 25 1 #[(0, Operand.const (Value.agg #[Value.int IntKind.u8 0, Value.string { data := #[] }, Value.bool false, Value.string { data := #[] }, Value.slice none 0 0, Value.int IntKind.i64 0, Value.slice none 0 0]))], type := 25, pos := "terms.go:113", after := #[], guard := none }) rfl (fun K hK => ?_) AllReadyH.nil
          go_simp
          have hbn := below_one (w := w5) (.cells #[.int .u8 0, .string ⟨#[]⟩, .bool false, .string ⟨#[]⟩, .slice none 0 0, .int .i64 0, .slice none 0 0] 27)
          replace hBc := blk_below hBc hbn
          replace hXc := blk_below hXc hbn
          replace hbc := below_step hbc hbn
          have hnews := blk_new w5 (.cells #[.int .u8 0, .string ⟨#[]⟩, .bool false, .string ⟨#[]⟩, .slice none 0 0, .int .i64 0, .slice none 0 0] 27)
          replace hT5 := hT5.later hbn
          replace hM5 := hM5.later hbn
          refine hK.out _ _ (by exact box7 hXc) (fun hHeld => ?_)
          clear hK K
          try simp only [Act.put, List.setIfInBounds_toArray, List.set_cons_zero, List.set_cons_succ]
          obtain ⟨i0, hi0, hz0, hz1, hz2⟩ := info_parts info27
          obtain ⟨inner, tsf, ssf, hrow, hel⟩ := id HV1.out
          have hlow : ∀ k, W1.heap.size ≤ k → w.heap.size ≤ k := fun k hk => Nat.le_trans (Nat.le_of_lt (blk_lt HBX1.out)) hk
          refine wpAnyH_ready (rs := [8]) (by kernel_rfl) (by simp) ?_
          refine AllReadyH.cons (o := { dst := some 28, op := Op.call { callee := Callee.builtin Builtin.append, args := #[Operand.tmp 23, Operand.tmp 27], argTypes := #[25, 25] }, type := 25, pos := "terms.go:113", after := #[{ on := 3, ground := Ground.data }, { on := 7, ground := Ground.data }, { on := 5, ground := Ground.chain }, { on := 0, ground := Ground.phase }, { on := 1, ground := Ground.phase }, { on := 2, ground := Ground.phase }, { on := 3, ground := Ground.phase }, { on := 4, ground := Ground.phase }, { on := 5, ground := Ground.phase }, { on := 6, ground := Ground.phase }, { on := 7, ground := Ground.phase }], guard := none }) rfl (fun K hK => ?_) AllReadyH.nil
          refine step_append_lies _ rfl _ _ 25 rfl base 27 i0 _ 7 104 Try.underlying25 hi0 hz0 hz1 hz2 rfl (by decide) (.slice RA vs.length rc) vs.length inner rfl (own_later hrow hbc) ⟨w5.heap.size, 0, none⟩ 1 1 [.int .u8 0, .string ⟨#[]⟩, .bool false, .string ⟨#[]⟩, .slice none 0 0, .int .i64 0, .slice none 0 0] rfl rfl (World.news_of_block hnews) ?hone (by decide) ?h63 ?hby ?hbase _ rfl ?_
          case hone => simp [Value.oneCell']
          case h63 => have := HVL.out; unfold maxLen; omega
          case hby => have := HVL.out; omega
          case hbase => have := hbc.size; have := HBS1.out; omega
          intro g' cap w3 hown3 hgr hat hg3
          have hvb : ∀ k, (Value.slice RA vs.length rc).ownBlock = some k → base ≤ k := fun k hk => own_base hrow k hk
          have hvx : some w.heap.size ≠ (Value.slice RA vs.length rc).ownBlock := fun e => hnr _ hbW1 ⟨_, _, HBW1.out, .inl e.symm⟩
          have hB3 := (hgr.block g (blk_lt hBc) (fun e => by have := hvb g e.symm; omega)).trans hBc
          have hX3 := (hgr.block w.heap.size (blk_lt hXc) hvx).trans hXc
          have hil : inner.length = vs.length * 7 := hrow.1
          have hl1 : (vs.length : Int) < (vs.length : Int) + 1 := by omega
          obtain ⟨p0, p1, p2, p3, p4, p5, p6, q0, q1, q2, q3, q4, q5, q6⟩ := own_cells7 hil hown3
          refine hK.out _ _ (by exact box7 hX3) (fun hHeld => ?_)
          clear hK K
          try simp only [Act.put, List.setIfInBounds_toArray, List.set_cons_zero, List.set_cons_succ]
          refine wpAnyH_take (i := 9) (oi := { dst := some 29, op := Op.indexAddr 25 (Operand.tmp 28) (Operand.tmp 26), type := 0, pos := "terms.go:113", after := #[{ on := 8, ground := Ground.data }, { on := 6, ground := Ground.data }, { on := 0, ground := Ground.phase }, { on := 1, ground := Ground.phase }, { on := 2, ground := Ground.phase }, { on := 3, ground := Ground.phase }, { on := 4, ground := Ground.phase }, { on := 5, ground := Ground.phase }, { on := 6, ground := Ground.phase }, { on := 7, ground := Ground.phase }, { on := 8, ground := Ground.phase }, { on := 13, ground := Ground.gcOnly Departure.appendInPlace }], guard := none }) (v := ?_) rfl (by kernel_rfl) (by kernel_rfl) (by kernel_rfl) (fun _ _ _ h => h) (Or.inl ⟨by rfl, ?_⟩) (by assumption) ?_
          rotate_left
          · intro w' hSw; (try dsimp only at hSw); go_simp; try with_reducible rfl
          try simp only [Act.put, List.setIfInBounds_toArray, List.set_cons_zero, List.set_cons_succ]
          refine wpAnyH_take (i := 11) (oi := { dst := some 30, op := Op.nilCheck (Operand.tmp 20), type := 0, pos := "terms.go:113", after := #[{ on := 0, ground := Ground.data }, { on := 0, ground := Ground.phase }, { on := 1, ground := Ground.phase }, { on := 2, ground := Ground.phase }, { on := 3, ground := Ground.phase }, { on := 4, ground := Ground.phase }, { on := 5, ground := Ground.phase }, { on := 6, ground := Ground.phase }, { on := 7, ground := Ground.phase }, { on := 8, ground := Ground.phase }, { on := 9, ground := Ground.textOnly Departure.appendInPlace }, { on := 10, ground := Ground.textOnly Departure.appendInPlace }], guard := none }) (v := ?_) rfl (by kernel_rfl) (by kernel_rfl) (by kernel_rfl) (fun _ _ _ h => h) (Or.inl ⟨by rfl, ?_⟩) (by assumption) ?_
          rotate_left
          · intro w' hSw; (try dsimp only at hSw); go_simp; try with_reducible rfl
          try simp only [Act.put, List.setIfInBounds_toArray, List.set_cons_zero, List.set_cons_succ]
          refine wpAnyH_take (i := 12) (oi := { dst := some 31, op := Op.fieldAddr 126 (Operand.tmp 30) 0, type := 0, pos := "terms.go:113", after := #[{ on := 11, ground := Ground.data }, { on := 0, ground := Ground.phase }, { on := 1, ground := Ground.phase }, { on := 2, ground := Ground.phase }, { on := 3, ground := Ground.phase }, { on := 4, ground := Ground.phase }, { on := 5, ground := Ground.phase }, { on := 6, ground := Ground.phase }, { on := 7, ground := Ground.phase }, { on := 8, ground := Ground.phase }, { on := 9, ground := Ground.textOnly Departure.appendInPlace }, { on := 10, ground := Ground.textOnly Departure.appendInPlace }], guard := none }) (v := ?_) rfl (by kernel_rfl) (by kernel_rfl) (by kernel_rfl) (fun _ _ _ h => h) (Or.inl ⟨by rfl, ?_⟩) (by assumption) ?_
          rotate_left
          · intro w' hSw; (try dsimp only at hSw); go_simp; try with_reducible rfl
          try simp only [Act.put, List.setIfInBounds_toArray, List.set_cons_zero, List.set_cons_succ]
          have hgg : g ≠ g' := fun e => by
            rcases hat with h | h
            · have := hvb _ h; omega
            · have := blk_lt hBc; omega
          have hxg : w.heap.size ≠ g' := fun e => by
            rcases hat with h | h
            · exact hvx (by rw [e, h])
            · have := blk_lt hXc; omega
          have hxg2 : w.heap.size ≠ g := by omega
          refine wpAnyH_ready (rs := [10, 13]) (by kernel_rfl) (by simp) ?_
          refine AllReadyH.cons (o := { dst := none, op := Op.store 27 (Operand.tmp 29) (Operand.tmp 25), type := 0, pos := "terms.go:113", after := #[{ on := 9, ground := Ground.data }, { on := 5, ground := Ground.data }, { on := 8, ground := Ground.chain }, { on := 0, ground := Ground.phase }, { on := 1, ground := Ground.phase }, { on := 2, ground := Ground.phase }, { on := 3, ground := Ground.phase }, { on := 4, ground := Ground.phase }, { on := 5, ground := Ground.phase }, { on := 6, ground := Ground.phase }, { on := 7, ground := Ground.phase }, { on := 8, ground := Ground.phase }, { on := 13, ground := Ground.gcOnly Departure.appendInPlace }], guard := none }) rfl (fun K hK => ?_) (AllReadyH.cons (o := { dst := none, op := Op.store 25 (Operand.tmp 31) (Operand.tmp 28), type := 0, pos := "terms.go:113", after := #[{ on := 12, ground := Ground.data }, { on := 8, ground := Ground.data }, { on := 8, ground := Ground.chain }, { on := 10, ground := Ground.textOnly Departure.appendInPlace }, { on := 0, ground := Ground.phase }, { on := 1, ground := Ground.phase }, { on := 2, ground := Ground.phase }, { on := 3, ground := Ground.phase }, { on := 4, ground := Ground.phase }, { on := 5, ground := Ground.phase }, { on := 6, ground := Ground.phase }, { on := 7, ground := Ground.phase }, { on := 8, ground := Ground.phase }, { on := 9, ground := Ground.textOnly Departure.appendInPlace }, { on := 10, ground := Ground.textOnly Departure.appendInPlace }], guard := none }) rfl (fun K hK => ?_) AllReadyH.nil)
          · go_simp
            refine hK.out _ _ (by exact box7 (blk_far (blk_far (blk_far (blk_far (blk_far (blk_far (blk_far (hX3) (by (try dsimp only); exact hxg) _) (by (try dsimp only); exact hxg) _) (by (try dsimp only); exact hxg) _) (by (try dsimp only); exact hxg) _) (by (try dsimp only); exact hxg) _) (by (try dsimp only); exact hxg) _) (by (try dsimp only); exact hxg) _)) (fun hHeld => ?_)
            clear hK K
            try simp only [Act.put, List.setIfInBounds_toArray, List.set_cons_zero, List.set_cons_succ]
            have hB4 : ((((((((w3).setCell ⟨g', vs.length * 7, none⟩ (.int .u8 x.f0)).setCell ⟨g', vs.length * 7 + 1, none⟩ (.string x.f1)).setCell ⟨g', vs.length * 7 + 2, none⟩ (.bool x.f2.f0)).setCell ⟨g', vs.length * 7 + 3, none⟩ (.string x.f2.f1)).setCell ⟨g', vs.length * 7 + 4, none⟩ (.slice At x.f2.f2.length ct)).setCell ⟨g', vs.length * 7 + 5, none⟩ (.int .i64 x.f3)).setCell ⟨g', vs.length * 7 + 6, none⟩ (.slice Bt x.f4.length dt)).heap[g]? = some (.cells #[.slice RA vs.length rc, .slice RB ts.length rd] 126 (0, 0)) := blk_far (blk_far (blk_far (blk_far (blk_far (blk_far (blk_far (hB3) (by (try dsimp only); exact hgg) _) (by (try dsimp only); exact hgg) _) (by (try dsimp only); exact hgg) _) (by (try dsimp only); exact hgg) _) (by (try dsimp only); exact hgg) _) (by (try dsimp only); exact hgg) _) (by (try dsimp only); exact hgg) _
            have wc0 := (blk_cell hB4 0).trans rfl
            have rc0 := blk_frozen hB4 0
            refine wpAnyH_ready (rs := [13]) (by kernel_rfl) (by simp) ?_
            refine AllReadyH.cons (o := { dst := none, op := Op.store 25 (Operand.tmp 31) (Operand.tmp 28), type := 0, pos := "terms.go:113", after := #[{ on := 12, ground := Ground.data }, { on := 8, ground := Ground.data }, { on := 8, ground := Ground.chain }, { on := 10, ground := Ground.textOnly Departure.appendInPlace }, { on := 0, ground := Ground.phase }, { on := 1, ground := Ground.phase }, { on := 2, ground := Ground.phase }, { on := 3, ground := Ground.phase }, { on := 4, ground := Ground.phase }, { on := 5, ground := Ground.phase }, { on := 6, ground := Ground.phase }, { on := 7, ground := Ground.phase }, { on := 8, ground := Ground.phase }, { on := 9, ground := Ground.textOnly Departure.appendInPlace }, { on := 10, ground := Ground.textOnly Departure.appendInPlace }], guard := none }) rfl (fun K hK => ?_) AllReadyH.nil
            go_simp
            refine hK.out _ _ (by exact box7 (blk_far (blk_far (blk_far (blk_far (blk_far (blk_far (blk_far (blk_far (hX3) (by (try dsimp only); exact hxg) _) (by (try dsimp only); exact hxg) _) (by (try dsimp only); exact hxg) _) (by (try dsimp only); exact hxg) _) (by (try dsimp only); exact hxg) _) (by (try dsimp only); exact hxg) _) (by (try dsimp only); exact hxg) _) (by (try dsimp only); exact hxg2) _)) (fun hHeld => ?_)
            clear hK K
            try simp only [Act.put, List.setIfInBounds_toArray, List.set_cons_zero, List.set_cons_succ]
            clear hB4 wc0 rc0
            have hW5 := Nt_wa (ut := .slice At x.f2.f2.length ct) (us := .slice Bt x.f4.length dt) (x := x) hil hgb (blk_lt hBc) hBc hvb (by have := hbc.size; have := HBS1.out; omega) hown3 hgr hat
            have hP := Nt_push (ts := ts) hgb HBS1.out HBW1.out hrow hel HU1.out hbc (hT5.mono (fun k hk => Nat.le_trans HLT.out hk)) (hM5.mono (fun k hk => Nat.le_trans HLT.out hk)) hat hW5
            have HS2 := Aside0.mk hP.1
            have HK2 := Aside0.mk (HK1.out.trans hP.2)
            have hX9 := hP.2.blk HBX1.out (by omega) (hnr _ hbW1)
            obtain ⟨x0, x1, x2, x3, x4, x5, x6⟩ := box7 hX9
            clear hW5 hP hB3 hX3 p0 p1 p2 p3 p4 p5 p6 q0 q1 q2 q3 q4 q5 q6 hown3 hgr hat hBc hXc hT5 hM5 hrow hel hX9 hnews
            refine wpAnyH_done (by kernel_rfl) ?_ _
            go_wp2_with fail
            go_meet
            case rel => exact ⟨HS2, HK2, x0, x1, x2, x3, x4, x5, x6⟩
          · have wc0 := (blk_cell hB3 0).trans rfl
            have rc0 := blk_frozen hB3 0
            go_simp
            refine hK.out _ _ (by exact box7 (blk_far hX3 (by (try dsimp only); exact hxg2) _)) (fun hHeld => ?_)
            clear hK K
            try simp only [Act.put, List.setIfInBounds_toArray, List.set_cons_zero, List.set_cons_succ]
            have hown4 := own_move (w1 := w3.setCell ⟨g, 0, none⟩ (.slice (some ⟨g', 0, none⟩) (vs.length + 1) cap)) hown3 (fun k hk => Below.heap_setCell _ _ _ k (own_slice_ne hk hgg))
            clear p0 p1 p2 p3 p4 p5 p6 q0 q1 q2 q3 q4 q5 q6 wc0 rc0
            obtain ⟨p0, p1, p2, p3, p4, p5, p6, q0, q1, q2, q3, q4, q5, q6⟩ := own_cells7 hil hown4
            refine wpAnyH_ready (rs := [10]) (by kernel_rfl) (by simp) ?_
            refine AllReadyH.cons (o := { dst := none, op := Op.store 27 (Operand.tmp 29) (Operand.tmp 25), type := 0, pos := "terms.go:113", after := #[{ on := 9, ground := Ground.data }, { on := 5, ground := Ground.data }, { on := 8, ground := Ground.chain }, { on := 0, ground := Ground.phase }, { on := 1, ground := Ground.phase }, { on := 2, ground := Ground.phase }, { on := 3, ground := Ground.phase }, { on := 4, ground := Ground.phase }, { on := 5, ground := Ground.phase }, { on := 6, ground := Ground.phase }, { on := 7, ground := Ground.phase }, { on := 8, ground := Ground.phase }, { on := 13, ground := Ground.gcOnly Departure.appendInPlace }], guard := none }) rfl (fun K hK => ?_) AllReadyH.nil
            go_simp
            refine hK.out _ _ (by exact box7 (blk_far (blk_far (blk_far (blk_far (blk_far (blk_far (blk_far ((blk_far hX3 (by (try dsimp only); exact hxg2) _)) (by (try dsimp only); exact hxg) _) (by (try dsimp only); exact hxg) _) (by (try dsimp only); exact hxg) _) (by (try dsimp only); exact hxg) _) (by (try dsimp only); exact hxg) _) (by (try dsimp only); exact hxg) _) (by (try dsimp only); exact hxg) _)) (fun hHeld => ?_)
            clear hK K
            try simp only [Act.put, List.setIfInBounds_toArray, List.set_cons_zero, List.set_cons_succ]
            clear hown4
            have hW5 := Nt_wb (ut := .slice At x.f2.f2.length ct) (us := .slice Bt x.f4.length dt) (x := x) hil hgb (blk_lt hBc) hBc hvb (by have := hbc.size; have := HBS1.out; omega) hown3 hgr hat
            have hP := Nt_push (ts := ts) hgb HBS1.out HBW1.out hrow hel HU1.out hbc (hT5.mono (fun k hk => Nat.le_trans HLT.out hk)) (hM5.mono (fun k hk => Nat.le_trans HLT.out hk)) hat hW5
            have HS2 := Aside0.mk hP.1
            have HK2 := Aside0.mk (HK1.out.trans hP.2)
            have hX9 := hP.2.blk HBX1.out (by omega) (hnr _ hbW1)
            obtain ⟨x0, x1, x2, x3, x4, x5, x6⟩ := box7 hX9
            clear hW5 hP hB3 hX3 p0 p1 p2 p3 p4 p5 p6 q0 q1 q2 q3 q4 q5 q6 hown3 hgr hat hBc hXc hT5 hM5 hrow hel hX9 hnews
            refine wpAnyH_done (by kernel_rfl) ?_ _
            go_wp2_with fail
            go_meet
            case rel => exact ⟨HS2, HK2, x0, x1, x2, x3, x4, x5, x6⟩
        · go_simp
          replace hbc := below_drew1 (below_one (w := W1) (.cells #[.int .u8 0, .string ⟨#[]⟩, .bool false, .string ⟨#[]⟩, .slice none 0 0, .int .i64 0, .slice none 0 0] 27))
          replace hBc := blk_below HBW1.out hbc
          replace hXc := blk_below HBX1.out hbc
          have hnews := blk_below (blk_new W1 (.cells #[.int .u8 0, .string ⟨#[]⟩, .bool false, .string ⟨#[]⟩, .slice none 0 0, .int .i64 0, .slice none 0 0] 27)) (below_drew1 (Below.refl _ _))
          refine hK.out _ _ (by exact box7 hXc) (fun hHeld => ?_)
          clear hK K
          try simp only [Act.put, List.setIfInBounds_toArray, List.set_cons_zero, List.set_cons_succ]
          refine wpAnyH_ready (rs := [5]) (by kernel_rfl) (by simp) ?_
          refine AllReadyH.cons (o := { dst := some 25, op := Op.call { callee := Callee.value (Operand.func 28), args := #[Operand.tmp 24], argTypes := #[27] }, type := 27, pos := "terms.go:113", after := #[{ on := 4, ground := Ground.data }], guard := none }) rfl (fun K hK => ?_) AllReadyH.nil
          go_simp
          go_wp2_with (go_at_call 28; (with_reducible refine (et _ hbc).mono ?_); rintro e w5 ⟨r5, rfl, hO5, hb5⟩; obtain ⟨vt, vs5, hr5, hT5, hM5⟩ := hO5; subst hr5; obtain ⟨At, ct, hvt, _, _⟩ := hT5.reads; subst hvt; obtain ⟨Bt, dt, hvs, _, _⟩ := hM5.reads; subst hvs)
          have HLT := Aside0.mk hbc.size
          replace hBc := blk_below hBc hb5
          replace hXc := blk_below hXc hb5
          have hnews := blk_below hnews hb5
          replace hbc := below_step hbc hb5
          refine hK.out _ _ (by exact box7 hXc) (fun hHeld => ?_)
          clear hK K
          try simp only [Act.put, List.setIfInBounds_toArray, List.set_cons_zero, List.set_cons_succ]
          obtain ⟨i0, hi0, hz0, hz1, hz2⟩ := info_parts info27
          obtain ⟨inner, tsf, ssf, hrow, hel⟩ := id HV1.out
          have hlow : ∀ k, W1.heap.size ≤ k → w.heap.size ≤ k := fun k hk => Nat.le_trans (Nat.le_of_lt (blk_lt HBX1.out)) hk
          refine wpAnyH_ready (rs := [8]) (by kernel_rfl) (by simp) ?_
          refine AllReadyH.cons (o := { dst := some 28, op := Op.call { callee := Callee.builtin Builtin.append, args := #[Operand.tmp 23, Operand.tmp 27], argTypes := #[25, 25] }, type := 25, pos := "terms.go:113", after := #[{ on := 3, ground := Ground.data }, { on := 7, ground := Ground.data }, { on := 5, ground := Ground.chain }, { on := 0, ground := Ground.phase }, { on := 1, ground := Ground.phase }, { on := 2, ground := Ground.phase }, { on := 3, ground := Ground.phase }, { on := 4, ground := Ground.phase }, { on := 5, ground := Ground.phase }, { on := 6, ground := Ground.phase }, { on := 7, ground := Ground.phase }], guard := none }) rfl (fun K hK => ?_) AllReadyH.nil
          refine step_append_lies _ rfl _ _ 25 rfl base 27 i0 _ 7 104 Try.underlying25 hi0 hz0 hz1 hz2 rfl (by decide) (.slice RA vs.length rc) vs.length inner rfl (own_later hrow hbc) ⟨W1.heap.size, 0, none⟩ 1 1 [.int .u8 0, .string ⟨#[]⟩, .bool false, .string ⟨#[]⟩, .slice none 0 0, .int .i64 0, .slice none 0 0] rfl rfl (World.news_of_block hnews) ?hone (by decide) ?h63 ?hby ?hbase _ rfl ?_
          case hone => simp [Value.oneCell']
          case h63 => have := HVL.out; unfold maxLen; omega
          case hby => have := HVL.out; omega
          case hbase => have := hbc.size; have := HBS1.out; omega
          intro g' cap w3 hown3 hgr hat hg3
          have hvb : ∀ k, (Value.slice RA vs.length rc).ownBlock = some k → base ≤ k := fun k hk => own_base hrow k hk
          have hvx : some w.heap.size ≠ (Value.slice RA vs.length rc).ownBlock := fun e => hnr _ hbW1 ⟨_, _, HBW1.out, .inl e.symm⟩
          have hB3 := (hgr.block g (blk_lt hBc) (fun e => by have := hvb g e.symm; omega)).trans hBc
          have hX3 := (hgr.block w.heap.size (blk_lt hXc) hvx).trans hXc
          have hil : inner.length = vs.length * 7 := hrow.1
          have hl1 : (vs.length : Int) < (vs.length : Int) + 1 := by omega
          obtain ⟨p0, p1, p2, p3, p4, p5, p6, q0, q1, q2, q3, q4, q5, q6⟩ := own_cells7 hil hown3
          refine hK.out _ _ (by exact box7 hX3) (fun hHeld => ?_)
          clear hK K
          try simp only [Act.put, List.setIfInBounds_toArray, List.set_cons_zero, List.set_cons_succ]
          refine wpAnyH_take (i := 9) (oi := { dst := some 29, op := Op.indexAddr 25 (Operand.tmp 28) (Operand.tmp 26), type := 0, pos := "terms.go:113", after := #[{ on := 8, ground := Ground.data }, { on := 6, ground := Ground.data }, { on := 0, ground := Ground.phase }, { on := 1, ground := Ground.phase }, { on := 2, ground := Ground.phase }, { on := 3, ground := Ground.phase }, { on := 4, ground := Ground.phase }, { on := 5, ground := Ground.phase }, { on := 6, ground := Ground.phase }, { on := 7, ground := Ground.phase }, { on := 8, ground := Ground.phase }, { on := 13, ground := Ground.gcOnly Departure.appendInPlace }], guard := none }) (v := ?_) rfl (by kernel_rfl) (by kernel_rfl) (by kernel_rfl) (fun _ _ _ h => h) (Or.inl ⟨by rfl, ?_⟩) (by assumption) ?_
          rotate_left
          · intro w' hSw; (try dsimp only at hSw); go_simp; try with_reducible rfl
          try simp only [Act.put, List.setIfInBounds_toArray, List.set_cons_zero, List.set_cons_succ]
          refine wpAnyH_take (i := 11) (oi := { dst := some 30, op := Op.nilCheck (Operand.tmp 20), type := 0, pos := "terms.go:113", after := #[{ on := 0, ground := Ground.data }, { on := 0, ground := Ground.phase }, { on := 1, ground := Ground.phase }, { on := 2, ground := Ground.phase }, { on := 3, ground := Ground.phase }, { on := 4, ground := Ground.phase }, { on := 5, ground := Ground.phase }, { on := 6, ground := Ground.phase }, { on := 7, ground := Ground.phase }, { on := 8, ground := Ground.phase }, { on := 9, ground := Ground.textOnly Departure.appendInPlace }, { on := 10, ground := Ground.textOnly Departure.appendInPlace }], guard := none }) (v := ?_) rfl (by kernel_rfl) (by kernel_rfl) (by kernel_rfl) (fun _ _ _ h => h) (Or.inl ⟨by rfl, ?_⟩) (by assumption) ?_
          rotate_left
          · intro w' hSw; (try dsimp only at hSw); go_simp; try with_reducible rfl
          try simp only [Act.put, List.setIfInBounds_toArray, List.set_cons_zero, List.set_cons_succ]
          refine wpAnyH_take (i := 12) (oi := { dst := some 31, op := Op.fieldAddr 126 (Operand.tmp 30) 0, type := 0, pos := "terms.go:113", after := #[{ on := 11, ground := Ground.data }, { on := 0, ground := Ground.phase }, { on := 1, ground := Ground.phase }, { on := 2, ground := Ground.phase }, { on := 3, ground := Ground.phase }, { on := 4, ground := Ground.phase }, { on := 5, ground := Ground.phase }, { on := 6, ground := Ground.phase }, { on := 7, ground := Ground.phase }, { on := 8, ground := Ground.phase }, { on := 9, ground := Ground.textOnly Departure.appendInPlace }, { on := 10, ground := Ground.textOnly Departure.appendInPlace }], guard := none }) (v := ?_) rfl (by kernel_rfl) (by kernel_rfl) (by kernel_rfl) (fun _ _ _ h => h) (Or.inl ⟨by rfl, ?_⟩) (by assumption) ?_
          rotate_left
          · intro w' hSw; (try dsimp only at hSw); go_simp; try with_reducible rfl
          try simp only [Act.put, List.setIfInBounds_toArray, List.set_cons_zero, List.set_cons_succ]
          have hgg : g ≠ g' := fun e => by
            rcases hat with h | h
            · have := hvb _ h; omega
            · have := blk_lt hBc; omega
          have hxg : w.heap.size ≠ g' := fun e => by
            rcases hat with h | h
            · exact hvx (by rw [e, h])
            · have := blk_lt hXc; omega
          have hxg2 : w.heap.size ≠ g := by omega
          refine wpAnyH_ready (rs := [10, 13]) (by kernel_rfl) (by simp) ?_
          refine AllReadyH.cons (o := { dst := none, op := Op.store 27 (Operand.tmp 29) (Operand.tmp 25), type := 0, pos := "terms.go:113", after := #[{ on := 9, ground := Ground.data }, { on := 5, ground := Ground.data }, { on := 8, ground := Ground.chain }, { on := 0, ground := Ground.phase }, { on := 1, ground := Ground.phase }, { on := 2, ground := Ground.phase }, { on := 3, ground := Ground.phase }, { on := 4, ground := Ground.phase }, { on := 5, ground := Ground.phase }, { on := 6, ground := Ground.phase }, { on := 7, ground := Ground.phase }, { on := 8, ground := Ground.phase }, { on := 13, ground := Ground.gcOnly Departure.appendInPlace }], guard := none }) rfl (fun K hK => ?_) (AllReadyH.cons (o := { dst := none, op := Op.store 25 (Operand.tmp 31) (Operand.tmp 28), type := 0, pos := "terms.go:113", after := #[{ on := 12, ground := Ground.data }, { on := 8, ground := Ground.data }, { on := 8, ground := Ground.chain }, { on := 10, ground := Ground.textOnly Departure.appendInPlace }, { on := 0, ground := Ground.phase }, { on := 1, ground := Ground.phase }, { on := 2, ground := Ground.phase }, { on := 3, ground := Ground.phase }, { on := 4, ground := Ground.phase }, { on := 5, ground := Ground.phase }, { on := 6, ground := Ground.phase }, { on := 7, ground := Ground.phase }, { on := 8, ground := Ground.phase }, { on := 9, ground := Ground.textOnly Departure.appendInPlace }, { on := 10, ground := Ground.textOnly Departure.appendInPlace }], guard := none }) rfl (fun K hK => ?_) AllReadyH.nil)
          · go_simp
            refine hK.out _ _ (by exact box7 (blk_far (blk_far (blk_far (blk_far (blk_far (blk_far (blk_far (hX3) (by (try dsimp only); exact hxg) _) (by (try dsimp only); exact hxg) _) (by (try dsimp only); exact hxg) _) (by (try dsimp only); exact hxg) _) (by (try dsimp only); exact hxg) _) (by (try dsimp only); exact hxg) _) (by (try dsimp only); exact hxg) _)) (fun hHeld => ?_)
            clear hK K
            try simp only [Act.put, List.setIfInBounds_toArray, List.set_cons_zero, List.set_cons_succ]
            have hB4 : ((((((((w3).setCell ⟨g', vs.length * 7, none⟩ (.int .u8 x.f0)).setCell ⟨g', vs.length * 7 + 1, none⟩ (.string x.f1)).setCell ⟨g', vs.length * 7 + 2, none⟩ (.bool x.f2.f0)).setCell ⟨g', vs.length * 7 + 3, none⟩ (.string x.f2.f1)).setCell ⟨g', vs.length * 7 + 4, none⟩ (.slice At x.f2.f2.length ct)).setCell ⟨g', vs.length * 7 + 5, none⟩ (.int .i64 x.f3)).setCell ⟨g', vs.length * 7 + 6, none⟩ (.slice Bt x.f4.length dt)).heap[g]? = some (.cells #[.slice RA vs.length rc, .slice RB ts.length rd] 126 (0, 0)) := blk_far (blk_far (blk_far (blk_far (blk_far (blk_far (blk_far (hB3) (by (try dsimp only); exact hgg) _) (by (try dsimp only); exact hgg) _) (by (try dsimp only); exact hgg) _) (by (try dsimp only); exact hgg) _) (by (try dsimp only); exact hgg) _) (by (try dsimp only); exact hgg) _) (by (try dsimp only); exact hgg) _
            have wc0 := (blk_cell hB4 0).trans rfl
            have rc0 := blk_frozen hB4 0
            refine wpAnyH_ready (rs := [13]) (by kernel_rfl) (by simp) ?_
            refine AllReadyH.cons (o := { dst := none, op := Op.store 25 (Operand.tmp 31) (Operand.tmp 28), type := 0, pos := "terms.go:113", after := #[{ on := 12, ground := Ground.data }, { on := 8, ground := Ground.data }, { on := 8, ground := Ground.chain }, { on := 10, ground := Ground.textOnly Departure.appendInPlace }, { on := 0, ground := Ground.phase }, { on := 1, ground := Ground.phase }, { on := 2, ground := Ground.phase }, { on := 3, ground := Ground.phase }, { on := 4, ground := Ground.phase }, { on := 5, ground := Ground.phase }, { on := 6, ground := Ground.phase }, { on := 7, ground := Ground.phase }, { on := 8, ground := Ground.phase }, { on := 9, ground := Ground.textOnly Departure.appendInPlace }, { on := 10, ground := Ground.textOnly Departure.appendInPlace }], guard := none }) rfl (fun K hK => ?_) AllReadyH.nil
            go_simp
            refine hK.out _ _ (by exact box7 (blk_far (blk_far (blk_far (blk_far (blk_far (blk_far (blk_far (blk_far (hX3) (by (try dsimp only); exact hxg) _) (by (try dsimp only); exact hxg) _) (by (try dsimp only); exact hxg) _) (by (try dsimp only); exact hxg) _) (by (try dsimp only); exact hxg) _) (by (try dsimp only); exact hxg) _) (by (try dsimp only); exact hxg) _) (by (try dsimp only); exact hxg2) _)) (fun hHeld => ?_)
            clear hK K
            try simp only [Act.put, List.setIfInBounds_toArray, List.set_cons_zero, List.set_cons_succ]
            clear hB4 wc0 rc0
            have hW5 := Nt_wa (ut := .slice At x.f2.f2.length ct) (us := .slice Bt x.f4.length dt) (x := x) hil hgb (blk_lt hBc) hBc hvb (by have := hbc.size; have := HBS1.out; omega) hown3 hgr hat
            have hP := Nt_push (ts := ts) hgb HBS1.out HBW1.out hrow hel HU1.out hbc (hT5.mono (fun k hk => Nat.le_trans HLT.out hk)) (hM5.mono (fun k hk => Nat.le_trans HLT.out hk)) hat hW5
            have HS2 := Aside0.mk hP.1
            have HK2 := Aside0.mk (HK1.out.trans hP.2)
            have hX9 := hP.2.blk HBX1.out (by omega) (hnr _ hbW1)
            obtain ⟨x0, x1, x2, x3, x4, x5, x6⟩ := box7 hX9
            clear hW5 hP hB3 hX3 p0 p1 p2 p3 p4 p5 p6 q0 q1 q2 q3 q4 q5 q6 hown3 hgr hat hBc hXc hT5 hM5 hrow hel hX9 hnews
            refine wpAnyH_done (by kernel_rfl) ?_ _
            go_wp2_with fail
            go_meet
            case rel => exact ⟨HS2, HK2, x0, x1, x2, x3, x4, x5, x6⟩
          · have wc0 := (blk_cell hB3 0).trans rfl
            have rc0 := blk_frozen hB3 0
            go_simp
            refine hK.out _ _ (by exact box7 (blk_far hX3 (by (try dsimp only); exact hxg2) _)) (fun hHeld => ?_)
            clear hK K
            try simp only [Act.put, List.setIfInBounds_toArray, List.set_cons_zero, List.set_cons_succ]
            have hown4 := own_move (w1 := w3.setCell ⟨g, 0, none⟩ (.slice (some ⟨g', 0, none⟩) (vs.length + 1) cap)) hown3 (fun k hk => Below.heap_setCell _ _ _ k (own_slice_ne hk hgg))
            clear p0 p1 p2 p3 p4 p5 p6 q0 q1 q2 q3 q4 q5 q6 wc0 rc0
            obtain ⟨p0, p1, p2, p3, p4, p5, p6, q0, q1, q2, q3, q4, q5, q6⟩ := own_cells7 hil hown4
            refine wpAnyH_ready (rs := [10]) (by kernel_rfl) (by simp) ?_
            refine AllReadyH.cons (o := { dst := none, op := Op.store 27 (Operand.tmp 29) (Operand.tmp 25), type := 0, pos := "terms.go:113", after := #[{ on := 9, ground := Ground.data }, { on := 5, ground := Ground.data }, { on := 8, ground := Ground.chain }, { on := 0, ground := Ground.phase }, { on := 1, ground := Ground.phase }, { on := 2, ground := Ground.phase }, { on := 3, ground := Ground.phase }, { on := 4, ground := Ground.phase }, { on := 5, ground := Ground.phase }, { on := 6, ground := Ground.phase }, { on := 7, ground := Ground.phase }, { on := 8, ground := Ground.phase }, { on := 13, ground := Ground.gcOnly Departure.appendInPlace }], guard := none }) rfl (fun K hK => ?_) AllReadyH.nil
            go_simp
            refine hK.out _ _ (by exact box7 (blk_far (blk_far (blk_far (blk_far (blk_far (blk_far (blk_far ((blk_far hX3 (by (try dsimp only); exact hxg2) _)) (by (try dsimp only); exact hxg) _) (by (try dsimp only); exact hxg) _) (by (try dsimp only); exact hxg) _) (by (try dsimp only); exact hxg) _) (by (try dsimp only); exact hxg) _) (by (try dsimp only); exact hxg) _) (by (try dsimp only); exact hxg) _)) (fun hHeld => ?_)
            clear hK K
            try simp only [Act.put, List.setIfInBounds_toArray, List.set_cons_zero, List.set_cons_succ]
            clear hown4
            have hW5 := Nt_wb (ut := .slice At x.f2.f2.length ct) (us := .slice Bt x.f4.length dt) (x := x) hil hgb (blk_lt hBc) hBc hvb (by have := hbc.size; have := HBS1.out; omega) hown3 hgr hat
            have hP := Nt_push (ts := ts) hgb HBS1.out HBW1.out hrow hel HU1.out hbc (hT5.mono (fun k hk => Nat.le_trans HLT.out hk)) (hM5.mono (fun k hk => Nat.le_trans HLT.out hk)) hat hW5
            have HS2 := Aside0.mk hP.1
            have HK2 := Aside0.mk (HK1.out.trans hP.2)
            have hX9 := hP.2.blk HBX1.out (by omega) (hnr _ hbW1)
            obtain ⟨x0, x1, x2, x3, x4, x5, x6⟩ := box7 hX9
            clear hW5 hP hB3 hX3 p0 p1 p2 p3 p4 p5 p6 q0 q1 q2 q3 q4 q5 q6 hown3 hgr hat hBc hXc hT5 hM5 hrow hel hX9 hnews
            refine wpAnyH_done (by kernel_rfl) ?_ _
            go_wp2_with fail
            go_meet
            case rel => exact ⟨HS2, HK2, x0, x1, x2, x3, x4, x5, x6⟩
      · go_simp
        go_wp2_with (go_at_call 28; (with_reducible refine (et _ hbc).mono ?_); rintro e w5 ⟨r5, rfl, hO5, hb5⟩; obtain ⟨vt, vs5, hr5, hT5, hM5⟩ := hO5; subst hr5; obtain ⟨At, ct, hvt, _, _⟩ := hT5.reads; subst hvt; obtain ⟨Bt, dt, hvs, _, _⟩ := hM5.reads; subst hvs)
        have HLT := Aside0.mk hbc.size
        replace hBc := blk_below hBc hb5
        replace hXc := blk_below hXc hb5
        replace hbc := below_step hbc hb5
        refine hK.out _ _ (by exact box7 hXc) (fun hHeld => ?_)
        clear hK K
        try simp only [Act.put, List.setIfInBounds_toArray, List.set_cons_zero, List.set_cons_succ]
        refine wpAnyH_ready (rs := [3, 7]) (by kernel_rfl) (by simp) ?_
        refine AllReadyH.cons (o := { dst := some 23, op := Op.load 25 (Operand.tmp 22), type := 25, pos := "terms.go:113", after := #[{ on := 2, ground := Ground.data }], guard := none }) rfl (fun K hK => ?_) (AllReadyH.cons (o := { dst := some 27, op := Op.buildSlice 25 1 #[(0, Operand.const (Value.agg #[Value.int IntKind.u8 0, Value.string { data := #[] }, Value.bool false, Value.string { data := #[] }, Value.slice none 0 0, Value.int IntKind.i64 0, Value.slice none 0 0]))], type := 25, pos := "terms.go:113", after := #[], guard := none }) rfl (fun K hK => ?_) AllReadyH.nil)
        · have wc0 := (blk_cell hBc 0).trans rfl
          go_simp
          refine hK.out _ _ (by exact box7 hXc) (fun hHeld => ?_)
          clear hK K
          try simp only [Act.put, List.setIfInBounds_toArray, List.set_cons_zero, List.set_cons_succ]
          refine wpAnyH_take (i := 6) (oi := { dst := some 26, op := Op.call { callee := Callee.builtin Builtin.len, args := #[Operand.tmp 23], argTypes := #[25] }, type := 3, pos := "terms.go:113", after := #[{ on := 3, ground := Ground.data }], guard := none }) (v := ?_) rfl (by kernel_rfl) (by kernel_rfl) (by kernel_rfl) (fun _ _ _ h => h) (Or.inl ⟨by rfl, ?_⟩) (by assumption) ?_
          rotate_left
          · intro w' hSw; (try dsimp only at hSw); go_simp; try with_reducible rfl
          try simp only [Act.put, List.setIfInBounds_toArray, List.set_cons_zero, List.set_cons_succ]
          refine wpAnyH_ready (rs := [7]) (by kernel_rfl) (by simp) ?_
          refine AllReadyH.cons (o := { dst := some 27, op := Op.buildSlice 25 1 #[(0, Operand.const (Value.agg #[Value.int IntKind.u8 0, Value.string { data := #[] }, Value.bool false, Value.string { data := #[] }, Value.slice none 0 0, Value.int IntKind.i64 0, Value.slice none 0 0]))], type := 25, pos := "terms.go:113", after := #[], guard := none }) rfl (fun K hK => ?_) AllReadyH.nil
          go_simp
          have hbn := below_one (w := w5) (.cells #[.int .u8 0, .string ⟨#[]⟩, .bool false, .string ⟨#[]⟩, .slice none 0 0, .int .i64 0, .slice none 0 0] 27)
          replace hBc := blk_below hBc hbn
          replace hXc := blk_below hXc hbn
          replace hbc := below_step hbc hbn
          have hnews := blk_new w5 (.cells #[.int .u8 0, .string ⟨#[]⟩, .bool false, .string ⟨#[]⟩, .slice none 0 0, .int .i64 0, .slice none 0 0] 27)
          replace hT5 := hT5.later hbn
          replace hM5 := hM5.later hbn
          refine hK.out _ _ (by exact box7 hXc) (fun hHeld => ?_)
          clear hK K
          try simp only [Act.put, List.setIfInBounds_toArray, List.set_cons_zero, List.set_cons_succ]
          obtain ⟨i0, hi0, hz0, hz1, hz2⟩ := info_parts info27
          obtain ⟨inner, tsf, ssf, hrow, hel⟩ := id HV1.out
          have hlow : ∀ k, W1.heap.size ≤ k → w.heap.size ≤ k := fun k hk => Nat.le_trans (Nat.le_of_lt (blk_lt HBX1.out)) hk
          refine wpAnyH_ready (rs := [8]) (by kernel_rfl) (by simp) ?_
          refine AllReadyH.cons (o := { dst := some 28, op := Op.call { callee := Callee.builtin Builtin.append, args := #[Operand.tmp 23, Operand.tmp 27], argTypes := #[25, 25] }, type := 25, pos := "terms.go:113", after := #[{ on := 3, ground := Ground.data }, { on := 7, ground := Ground.data }, { on := 5, ground := Ground.chain }, { on := 0, ground := Ground.phase }, { on := 1, ground := Ground.phase }, { on := 2, ground := Ground.phase }, { on := 3, ground := Ground.phase }, { on := 4, ground := Ground.phase }, { on := 5, ground := Ground.phase }, { on := 6, ground := Ground.phase }, { on := 7, ground := Ground.phase }], guard := none }) rfl (fun K hK => ?_) AllReadyH.nil
          refine step_append_lies _ rfl _ _ 25 rfl base 27 i0 _ 7 104 Try.underlying25 hi0 hz0 hz1 hz2 rfl (by decide) (.slice RA vs.length rc) vs.length inner rfl (own_later hrow hbc) ⟨w5.heap.size, 0, none⟩ 1 1 [.int .u8 0, .string ⟨#[]⟩, .bool false, .string ⟨#[]⟩, .slice none 0 0, .int .i64 0, .slice none 0 0] rfl rfl (World.news_of_block hnews) ?hone (by decide) ?h63 ?hby ?hbase _ rfl ?_
          case hone => simp [Value.oneCell']
          case h63 => have := HVL.out; unfold maxLen; omega
          case hby => have := HVL.out; omega
          case hbase => have := hbc.size; have := HBS1.out; omega
          intro g' cap w3 hown3 hgr hat hg3
          have hvb : ∀ k, (Value.slice RA vs.length rc).ownBlock = some k → base ≤ k := fun k hk => own_base hrow k hk
          have hvx : some w.heap.size ≠ (Value.slice RA vs.length rc).ownBlock := fun e => hnr _ hbW1 ⟨_, _, HBW1.out, .inl e.symm⟩
          have hB3 := (hgr.block g (blk_lt hBc) (fun e => by have := hvb g e.symm; omega)).trans hBc
          have hX3 := (hgr.block w.heap.size (blk_lt hXc) hvx).trans hXc
          have hil : inner.length = vs.length * 7 := hrow.1
          have hl1 : (vs.length : Int) < (vs.length : Int) + 1 := by omega
          obtain ⟨p0, p1, p2, p3, p4, p5, p6, q0, q1, q2, q3, q4, q5, q6⟩ := own_cells7 hil hown3
          refine hK.out _ _ (by exact box7 hX3) (fun hHeld => ?_)
          clear hK K
          try simp only [Act.put, List.setIfInBounds_toArray, List.set_cons_zero, List.set_cons_succ]
          refine wpAnyH_take (i := 9) (oi := { dst := some 29, op := Op.indexAddr 25 (Operand.tmp 28) (Operand.tmp 26), type := 0, pos := "terms.go:113", after := #[{ on := 8, ground := Ground.data }, { on := 6, ground := Ground.data }, { on := 0, ground := Ground.phase }, { on := 1, ground := Ground.phase }, { on := 2, ground := Ground.phase }, { on := 3, ground := Ground.phase }, { on := 4, ground := Ground.phase }, { on := 5, ground := Ground.phase }, { on := 6, ground := Ground.phase }, { on := 7, ground := Ground.phase }, { on := 8, ground := Ground.phase }, { on := 13, ground := Ground.gcOnly Departure.appendInPlace }], guard := none }) (v := ?_) rfl (by kernel_rfl) (by kernel_rfl) (by kernel_rfl) (fun _ _ _ h => h) (Or.inl ⟨by rfl, ?_⟩) (by assumption) ?_
          rotate_left
          · intro w' hSw; (try dsimp only at hSw); go_simp; try with_reducible rfl
          try simp only [Act.put, List.setIfInBounds_toArray, List.set_cons_zero, List.set_cons_succ]
          refine wpAnyH_take (i := 11) (oi := { dst := some 30, op := Op.nilCheck (Operand.tmp 20), type := 0, pos := "terms.go:113", after := #[{ on := 0, ground := Ground.data }, { on := 0, ground := Ground.phase }, { on := 1, ground := Ground.phase }, { on := 2, ground := Ground.phase }, { on := 3, ground := Ground.phase }, { on := 4, ground := Ground.phase }, { on := 5, ground := Ground.phase }, { on := 6, ground := Ground.phase }, { on := 7, ground := Ground.phase }, { on := 8, ground := Ground.phase }, { on := 9, ground := Ground.textOnly Departure.appendInPlace }, { on := 10, ground := Ground.textOnly Departure.appendInPlace }], guard := none }) (v := ?_) rfl (by kernel_rfl) (by kernel_rfl) (by kernel_rfl) (fun _ _ _ h => h) (Or.inl ⟨by rfl, ?_⟩) (by assumption) ?_
          rotate_left
          · intro w' hSw; (try dsimp only at hSw); go_simp; try with_reducible rfl
          try simp only [Act.put, List.setIfInBounds_toArray, List.set_cons_zero, List.set_cons_succ]
          refine wpAnyH_take (i := 12) (oi := { dst := some 31, op := Op.fieldAddr 126 (Operand.tmp 30) 0, type := 0, pos := "terms.go:113", after := #[{ on := 11, ground := Ground.data }, { on := 0, ground := Ground.phase }, { on := 1, ground := Ground.phase }, { on := 2, ground := Ground.phase }, { on := 3, ground := Ground.phase }, { on := 4, ground := Ground.phase }, { on := 5, ground := Ground.phase }, { on := 6, ground := Ground.phase }, { on := 7, ground := Ground.phase }, { on := 8, ground := Ground.phase }, { on := 9, ground := Ground.textOnly Departure.appendInPlace }, { on := 10, ground := Ground.textOnly Departure.appendInPlace }], guard := none }) (v := ?_) rfl (by kernel_rfl) (by kernel_rfl) (by kernel_rfl) (fun _ _ _ h => h) (Or.inl ⟨by rfl, ?_⟩) (by assumption) ?_
          rotate_left
          · intro w' hSw; (try dsimp only at hSw); go_simp; try with_reducible rfl
          try simp only [Act.put, List.setIfInBounds_toArray, List.set_cons_zero, List.set_cons_succ]
          have hgg : g ≠ g' := fun e => by
            rcases hat with h | h
            · have := hvb _ h; omega
            · have := blk_lt hBc; omega
          have hxg : w.heap.size ≠ g' := fun e => by
            rcases hat with h | h
            · exact hvx (by rw [e, h])
            · have := blk_lt hXc; omega
          have hxg2 : w.heap.size ≠ g := by omega
          refine wpAnyH_ready (rs := [10, 13]) (by kernel_rfl) (by simp) ?_
          refine AllReadyH.cons (o := { dst := none, op := Op.store 27 (Operand.tmp 29) (Operand.tmp 25), type := 0, pos := "terms.go:113", after := #[{ on := 9, ground := Ground.data }, { on := 5, ground := Ground.data }, { on := 8, ground := Ground.chain }, { on := 0, ground := Ground.phase }, { on := 1, ground := Ground.phase }, { on := 2, ground := Ground.phase }, { on := 3, ground := Ground.phase }, { on := 4, ground := Ground.phase }, { on := 5, ground := Ground.phase }, { on := 6, ground := Ground.phase }, { on := 7, ground := Ground.phase }, { on := 8, ground := Ground.phase }, { on := 13, ground := Ground.gcOnly Departure.appendInPlace }], guard := none }) rfl (fun K hK => ?_) (AllReadyH.cons (o := { dst := none, op := Op.store 25 (Operand.tmp 31) (Operand.tmp 28), type := 0, pos := "terms.go:113", after := #[{ on := 12, ground := Ground.data }, { on := 8, ground := Ground.data }, { on := 8, ground := Ground.chain }, { on := 10, ground := Ground.textOnly Departure.appendInPlace }, { on := 0, ground := Ground.phase }, { on := 1, ground := Ground.phase }, { on := 2, ground := Ground.phase }, { on := 3, ground := Ground.phase }, { on := 4, ground := Ground.phase }, { on := 5, ground := Ground.phase }, { on := 6, ground := Ground.phase }, { on := 7, ground := Ground.phase }, { on := 8, ground := Ground.phase }, { on := 9, ground := Ground.textOnly Departure.appendInPlace }, { on := 10, ground := Ground.textOnly Departure.appendInPlace }], guard := none }) rfl (fun K hK => ?_) AllReadyH.nil)
          · go_simp
            refine hK.out _ _ (by exact box7 (blk_far (blk_far (blk_far (blk_far (blk_far (blk_far (blk_far (hX3) (by (try dsimp only); exact hxg) _) (by (try dsimp only); exact hxg) _) (by (try dsimp only); exact hxg) _) (by (try dsimp only); exact hxg) _) (by (try dsimp only); exact hxg) _) (by (try dsimp only); exact hxg) _) (by (try dsimp only); exact hxg) _)) (fun hHeld => ?_)
            clear hK K
            try simp only [Act.put, List.setIfInBounds_toArray, List.set_cons_zero, List.set_cons_succ]
            have hB4 : ((((((((w3).setCell ⟨g', vs.length * 7, none⟩ (.int .u8 x.f0)).setCell ⟨g', vs.length * 7 + 1, none⟩ (.string x.f1)).setCell ⟨g', vs.length * 7 + 2, none⟩ (.bool x.f2.f0)).setCell ⟨g', vs.length * 7 + 3, none⟩ (.string x.f2.f1)).setCell ⟨g', vs.length * 7 + 4, none⟩ (.slice At x.f2.f2.length ct)).setCell ⟨g', vs.length * 7 + 5, none⟩ (.int .i64 x.f3)).setCell ⟨g', vs.length * 7 + 6, none⟩ (.slice Bt x.f4.length dt)).heap[g]? = some (.cells #[.slice RA vs.length rc, .slice RB ts.length rd] 126 (0, 0)) := blk_far (blk_far (blk_far (blk_far (blk_far (blk_far (blk_far (hB3) (by (try dsimp only); exact hgg) _) (by (try dsimp only); exact hgg) _) (by (try dsimp only); exact hgg) _) (by (try dsimp only); exact hgg) _) (by (try dsimp only); exact hgg) _) (by (try dsimp only); exact hgg) _) (by (try dsimp only); exact hgg) _
            have wc0 := (blk_cell hB4 0).trans rfl
            have rc0 := blk_frozen hB4 0
            refine wpAnyH_ready (rs := [13]) (by kernel_rfl) (by simp) ?_
            refine AllReadyH.cons (o := { dst := none, op := Op.store 25 (Operand.tmp 31) (Operand.tmp 28), type := 0, pos := "terms.go:113", after := #[{ on := 12, ground := Ground.data }, { on := 8, ground := Ground.data }, { on := 8, ground := Ground.chain }, { on := 10, ground := Ground.textOnly Departure.appendInPlace }, { on := 0, ground := Ground.phase }, { on := 1, ground := Ground.phase }, { on := 2, ground := Ground.phase }, { on := 3, ground := Ground.phase }, { on := 4, ground := Ground.phase }, { on := 5, ground := Ground.phase }, { on := 6, ground := Ground.phase }, { on := 7, ground := Ground.phase }, { on := 8, ground := Ground.phase }, { on := 9, ground := Ground.textOnly Departure.appendInPlace }, { on := 10, ground := Ground.textOnly Departure.appendInPlace }], guard := none }) rfl (fun K hK => ?_) AllReadyH.nil
            go_simp
            refine hK.out _ _ (by exact box7 (blk_far (blk_far (blk_far (blk_far (blk_far (blk_far (blk_far (blk_far (hX3) (by (try dsimp only); exact hxg) _) (by (try dsimp only); exact hxg) _) (by (try dsimp only); exact hxg) _) (by (try dsimp only); exact hxg) _) (by (try dsimp only); exact hxg) _) (by (try dsimp only); exact hxg) _) (by (try dsimp only); exact hxg) _) (by (try dsimp only); exact hxg2) _)) (fun hHeld => ?_)
            clear hK K
            try simp only [Act.put, List.setIfInBounds_toArray, List.set_cons_zero, List.set_cons_succ]
            clear hB4 wc0 rc0
            have hW5 := Nt_wa (ut := .slice At x.f2.f2.length ct) (us := .slice Bt x.f4.length dt) (x := x) hil hgb (blk_lt hBc) hBc hvb (by have := hbc.size; have := HBS1.out; omega) hown3 hgr hat
            have hP := Nt_push (ts := ts) hgb HBS1.out HBW1.out hrow hel HU1.out hbc (hT5.mono (fun k hk => Nat.le_trans HLT.out hk)) (hM5.mono (fun k hk => Nat.le_trans HLT.out hk)) hat hW5
            have HS2 := Aside0.mk hP.1
            have HK2 := Aside0.mk (HK1.out.trans hP.2)
            have hX9 := hP.2.blk HBX1.out (by omega) (hnr _ hbW1)
            obtain ⟨x0, x1, x2, x3, x4, x5, x6⟩ := box7 hX9
            clear hW5 hP hB3 hX3 p0 p1 p2 p3 p4 p5 p6 q0 q1 q2 q3 q4 q5 q6 hown3 hgr hat hBc hXc hT5 hM5 hrow hel hX9 hnews
            refine wpAnyH_done (by kernel_rfl) ?_ _
            go_wp2_with fail
            go_meet
            case rel => exact ⟨HS2, HK2, x0, x1, x2, x3, x4, x5, x6⟩
          · have wc0 := (blk_cell hB3 0).trans rfl
            have rc0 := blk_frozen hB3 0
            go_simp
            refine hK.out _ _ (by exact box7 (blk_far hX3 (by (try dsimp only); exact hxg2) _)) (fun hHeld => ?_)
            clear hK K
            try simp only [Act.put, List.setIfInBounds_toArray, List.set_cons_zero, List.set_cons_succ]
            have hown4 := own_move (w1 := w3.setCell ⟨g, 0, none⟩ (.slice (some ⟨g', 0, none⟩) (vs.length + 1) cap)) hown3 (fun k hk => Below.heap_setCell _ _ _ k (own_slice_ne hk hgg))
            clear p0 p1 p2 p3 p4 p5 p6 q0 q1 q2 q3 q4 q5 q6 wc0 rc0
            obtain ⟨p0, p1, p2, p3, p4, p5, p6, q0, q1, q2, q3, q4, q5, q6⟩ := own_cells7 hil hown4
            refine wpAnyH_ready (rs := [10]) (by kernel_rfl) (by simp) ?_
            refine AllReadyH.cons (o := { dst := none, op := Op.store 27 (Operand.tmp 29) (Operand.tmp 25), type := 0, pos := "terms.go:113", after := #[{ on := 9, ground := Ground.data }, { on := 5, ground := Ground.data }, { on := 8, ground := Ground.chain }, { on := 0, ground := Ground.phase }, { on := 1, ground := Ground.phase }, { on := 2, ground := Ground.phase }, { on := 3, ground := Ground.phase }, { on := 4, ground := Ground.phase }, { on := 5, ground := Ground.phase }, { on := 6, ground := Ground.phase }, { on := 7, ground := Ground.phase }, { on := 8, ground := Ground.phase }, { on := 13, ground := Ground.gcOnly Departure.appendInPlace }], guard := none }) rfl (fun K hK => ?_) AllReadyH.nil
            go_simp
            refine hK.out _ _ (by exact box7 (blk_far (blk_far (blk_far (blk_far (blk_far (blk_far (blk_far ((blk_far hX3 (by (try dsimp only); exact hxg2) _)) (by (try dsimp only); exact hxg) _) (by (try dsimp only); exact hxg) _) (by (try dsimp only); exact hxg) _) (by (try dsimp only); exact hxg) _) (by (try dsimp only); exact hxg) _) (by (try dsimp only); exact hxg) _) (by (try dsimp only); exact hxg) _)) (fun hHeld => ?_)
            clear hK K
            try simp only [Act.put, List.setIfInBounds_toArray, List.set_cons_zero, List.set_cons_succ]
            clear hown4
            have hW5 := Nt_wb (ut := .slice At x.f2.f2.length ct) (us := .slice Bt x.f4.length dt) (x := x) hil hgb (blk_lt hBc) hBc hvb (by have := hbc.size; have := HBS1.out; omega) hown3 hgr hat
            have hP := Nt_push (ts := ts) hgb HBS1.out HBW1.out hrow hel HU1.out hbc (hT5.mono (fun k hk => Nat.le_trans HLT.out hk)) (hM5.mono (fun k hk => Nat.le_trans HLT.out hk)) hat hW5
            have HS2 := Aside0.mk hP.1
            have HK2 := Aside0.mk (HK1.out.trans hP.2)
            have hX9 := hP.2.blk HBX1.out (by omega) (hnr _ hbW1)
            obtain ⟨x0, x1, x2, x3, x4, x5, x6⟩ := box7 hX9
            clear hW5 hP hB3 hX3 p0 p1 p2 p3 p4 p5 p6 q0 q1 q2 q3 q4 q5 q6 hown3 hgr hat hBc hXc hT5 hM5 hrow hel hX9 hnews
            refine wpAnyH_done (by kernel_rfl) ?_ _
            go_wp2_with fail
            go_meet
            case rel => exact ⟨HS2, HK2, x0, x1, x2, x3, x4, x5, x6⟩
        · go_simp
          have hbn := below_one (w := w5) (.cells #[.int .u8 0, .string ⟨#[]⟩, .bool false, .string ⟨#[]⟩, .slice none 0 0, .int .i64 0, .slice none 0 0] 27)
          replace hBc := blk_below hBc hbn
          replace hXc := blk_below hXc hbn
          replace hbc := below_step hbc hbn
          have hnews := blk_new w5 (.cells #[.int .u8 0, .string ⟨#[]⟩, .bool false, .string ⟨#[]⟩, .slice none 0 0, .int .i64 0, .slice none 0 0] 27)
          replace hT5 := hT5.later hbn
          replace hM5 := hM5.later hbn
          refine hK.out _ _ (by exact box7 hXc) (fun hHeld => ?_)
          clear hK K
          try simp only [Act.put, List.setIfInBounds_toArray, List.set_cons_zero, List.set_cons_succ]
          refine wpAnyH_ready (rs := [3]) (by kernel_rfl) (by simp) ?_
          refine AllReadyH.cons (o := { dst := some 23, op := Op.load 25 (Operand.tmp 22), type := 25, pos := "terms.go:113", after := #[{ on := 2, ground := Ground.data }], guard := none }) rfl (fun K hK => ?_) AllReadyH.nil
          have wc0 := (blk_cell hBc 0).trans rfl
          go_simp
          refine hK.out _ _ (by exact box7 hXc) (fun hHeld => ?_)
          clear hK K
          try simp only [Act.put, List.setIfInBounds_toArray, List.set_cons_zero, List.set_cons_succ]
          refine wpAnyH_take (i := 6) (oi := { dst := some 26, op := Op.call { callee := Callee.builtin Builtin.len, args := #[Operand.tmp 23], argTypes := #[25] }, type := 3, pos := "terms.go:113", after := #[{ on := 3, ground := Ground.data }], guard := none }) (v := ?_) rfl (by kernel_rfl) (by kernel_rfl) (by kernel_rfl) (fun _ _ _ h => h) (Or.inl ⟨by rfl, ?_⟩) (by assumption) ?_
          rotate_left
          · intro w' hSw; (try dsimp only at hSw); go_simp; try with_reducible rfl
          try simp only [Act.put, List.setIfInBounds_toArray, List.set_cons_zero, List.set_cons_succ]
          obtain ⟨i0, hi0, hz0, hz1, hz2⟩ := info_parts info27
          obtain ⟨inner, tsf, ssf, hrow, hel⟩ := id HV1.out
          have hlow : ∀ k, W1.heap.size ≤ k → w.heap.size ≤ k := fun k hk => Nat.le_trans (Nat.le_of_lt (blk_lt HBX1.out)) hk
          refine wpAnyH_ready (rs := [8]) (by kernel_rfl) (by simp) ?_
          refine AllReadyH.cons (o := { dst := some 28, op := Op.call { callee := Callee.builtin Builtin.append, args := #[Operand.tmp 23, Operand.tmp 27], argTypes := #[25, 25] }, type := 25, pos := "terms.go:113", after := #[{ on := 3, ground := Ground.data }, { on := 7, ground := Ground.data }, { on := 5, ground := Ground.chain }, { on := 0, ground := Ground.phase }, { on := 1, ground := Ground.phase }, { on := 2, ground := Ground.phase }, { on := 3, ground := Ground.phase }, { on := 4, ground := Ground.phase }, { on := 5, ground := Ground.phase }, { on := 6, ground := Ground.phase }, { on := 7, ground := Ground.phase }], guard := none }) rfl (fun K hK => ?_) AllReadyH.nil
          refine step_append_lies _ rfl _ _ 25 rfl base 27 i0 _ 7 104 Try.underlying25 hi0 hz0 hz1 hz2 rfl (by decide) (.slice RA vs.length rc) vs.length inner rfl (own_later hrow hbc) ⟨w5.heap.size, 0, none⟩ 1 1 [.int .u8 0, .string ⟨#[]⟩, .bool false, .string ⟨#[]⟩, .slice none 0 0, .int .i64 0, .slice none 0 0] rfl rfl (World.news_of_block hnews) ?hone (by decide) ?h63 ?hby ?hbase _ rfl ?_
          case hone => simp [Value.oneCell']
          case h63 => have := HVL.out; unfold maxLen; omega
          case hby => have := HVL.out; omega
          case hbase => have := hbc.size; have := HBS1.out; omega
          intro g' cap w3 hown3 hgr hat hg3
          have hvb : ∀ k, (Value.slice RA vs.length rc).ownBlock = some k → base ≤ k := fun k hk => own_base hrow k hk
          have hvx : some w.heap.size ≠ (Value.slice RA vs.length rc).ownBlock := fun e => hnr _ hbW1 ⟨_, _, HBW1.out, .inl e.symm⟩
          have hB3 := (hgr.block g (blk_lt hBc) (fun e => by have := hvb g e.symm; omega)).trans hBc
          have hX3 := (hgr.block w.heap.size (blk_lt hXc) hvx).trans hXc
          have hil : inner.length = vs.length * 7 := hrow.1
          have hl1 : (vs.length : Int) < (vs.length : Int) + 1 := by omega
          obtain ⟨p0, p1, p2, p3, p4, p5, p6, q0, q1, q2, q3, q4, q5, q6⟩ := own_cells7 hil hown3
          refine hK.out _ _ (by exact box7 hX3) (fun hHeld => ?_)
          clear hK K
          try simp only [Act.put, List.setIfInBounds_toArray, List.set_cons_zero, List.set_cons_succ]
          refine wpAnyH_take (i := 9) (oi := { dst := some 29, op := Op.indexAddr 25 (Operand.tmp 28) (Operand.tmp 26), type := 0, pos := "terms.go:113", after := #[{ on := 8, ground := Ground.data }, { on := 6, ground := Ground.data }, { on := 0, ground := Ground.phase }, { on := 1, ground := Ground.phase }, { on := 2, ground := Ground.phase }, { on := 3, ground := Ground.phase }, { on := 4, ground := Ground.phase }, { on := 5, ground := Ground.phase }, { on := 6, ground := Ground.phase }, { on := 7, ground := Ground.phase }, { on := 8, ground := Ground.phase }, { on := 13, ground := Ground.gcOnly Departure.appendInPlace }], guard := none }) (v := ?_) rfl (by kernel_rfl) (by kernel_rfl) (by kernel_rfl) (fun _ _ _ h => h) (Or.inl ⟨by rfl, ?_⟩) (by assumption) ?_
          rotate_left
          · intro w' hSw; (try dsimp only at hSw); go_simp; try with_reducible rfl
          try simp only [Act.put, List.setIfInBounds_toArray, List.set_cons_zero, List.set_cons_succ]
          refine wpAnyH_take (i := 11) (oi := { dst := some 30, op := Op.nilCheck (Operand.tmp 20), type := 0, pos := "terms.go:113", after := #[{ on := 0, ground := Ground.data }, { on := 0, ground := Ground.phase }, { on := 1, ground := Ground.phase }, { on := 2, ground := Ground.phase }, { on := 3, ground := Ground.phase }, { on := 4, ground := Ground.phase }, { on := 5, ground := Ground.phase }, { on := 6, ground := Ground.phase }, { on := 7, ground := Ground.phase }, { on := 8, ground := Ground.phase }, { on := 9, ground := Ground.textOnly Departure.appendInPlace }, { on := 10, ground := Ground.textOnly Departure.appendInPlace }], guard := none }) (v := ?_) rfl (by kernel_rfl) (by kernel_rfl) (by kernel_rfl) (fun _ _ _ h => h) (Or.inl ⟨by rfl, ?_⟩) (by assumption) ?_
          rotate_left
          · intro w' hSw; (try dsimp only at hSw); go_simp; try with_reducible rfl
          try simp only [Act.put, List.setIfInBounds_toArray, List.set_cons_zero, List.set_cons_succ]
          refine wpAnyH_take (i := 12) (oi := { dst := some 31, op := Op.fieldAddr 126 (Operand.tmp 30) 0, type := 0, pos := "terms.go:113", after := #[{ on := 11, ground := Ground.data }, { on := 0, ground := Ground.phase }, { on := 1, ground := Ground.phase }, { on := 2, ground := Ground.phase }, { on := 3, ground := Ground.phase }, { on := 4, ground := Ground.phase }, { on := 5, ground := Ground.phase }, { on := 6, ground := Ground.phase }, { on := 7, ground := Ground.phase }, { on := 8, ground := Ground.phase }, { on := 9, ground := Ground.textOnly Departure.appendInPlace }, { on := 10, ground := Ground.textOnly Departure.appendInPlace }], guard := none }) (v := ?_) rfl (by kernel_rfl) (by kernel_rfl) (by kernel_rfl) (fun _ _ _ h => h) (Or.inl ⟨by rfl, ?_⟩) (by assumption) ?_
          rotate_left
          · intro w' hSw; (try dsimp only at hSw); go_simp; try with_reducible rfl
          try simp only [Act.put, List.setIfInBounds_toArray, List.set_cons_zero, List.set_cons_succ]
          have hgg : g ≠ g' := fun e => by
            rcases hat with h | h
            · have := hvb _ h; omega
            · have := blk_lt hBc; omega
          have hxg : w.heap.size ≠ g' := fun e => by
            rcases hat with h | h
            · exact hvx (by rw [e, h])
            · have := blk_lt hXc; omega
          have hxg2 : w.heap.size ≠ g := by omega
          refine wpAnyH_ready (rs := [10, 13]) (by kernel_rfl) (by simp) ?_
          refine AllReadyH.cons (o := { dst := none, op := Op.store 27 (Operand.tmp 29) (Operand.tmp 25), type := 0, pos := "terms.go:113", after := #[{ on := 9, ground := Ground.data }, { on := 5, ground := Ground.data }, { on := 8, ground := Ground.chain }, { on := 0, ground := Ground.phase }, { on := 1, ground := Ground.phase }, { on := 2, ground := Ground.phase }, { on := 3, ground := Ground.phase }, { on := 4, ground := Ground.phase }, { on := 5, ground := Ground.phase }, { on := 6, ground := Ground.phase }, { on := 7, ground := Ground.phase }, { on := 8, ground := Ground.phase }, { on := 13, ground := Ground.gcOnly Departure.appendInPlace }], guard := none }) rfl (fun K hK => ?_) (AllReadyH.cons (o := { dst := none, op := Op.store 25 (Operand.tmp 31) (Operand.tmp 28), type := 0, pos := "terms.go:113", after := #[{ on := 12, ground := Ground.data }, { on := 8, ground := Ground.data }, { on := 8, ground := Ground.chain }, { on := 10, ground := Ground.textOnly Departure.appendInPlace }, { on := 0, ground := Ground.phase }, { on := 1, ground := Ground.phase }, { on := 2, ground := Ground.phase }, { on := 3, ground := Ground.phase }, { on := 4, ground := Ground.phase }, { on := 5, ground := Ground.phase }, { on := 6, ground := Ground.phase }, { on := 7, ground := Ground.phase }, { on := 8, ground := Ground.phase }, { on := 9, ground := Ground.textOnly Departure.appendInPlace }, { on := 10, ground := Ground.textOnly Departure.appendInPlace }], guard := none }) rfl (fun K hK => ?_) AllReadyH.nil)
          · go_simp
            refine hK.out _ _ (by exact box7 (blk_far (blk_far (blk_far (blk_far (blk_far (blk_far (blk_far (hX3) (by (try dsimp only); exact hxg) _) (by (try dsimp only); exact hxg) _) (by (try dsimp only); exact hxg) _) (by (try dsimp only); exact hxg) _) (by (try dsimp only); exact hxg) _) (by (try dsimp only); exact hxg) _) (by (try dsimp only); exact hxg) _)) (fun hHeld => ?_)
            clear hK K
            try simp only [Act.put, List.setIfInBounds_toArray, List.set_cons_zero, List.set_cons_succ]
            have hB4 : ((((((((w3).setCell ⟨g', vs.length * 7, none⟩ (.int .u8 x.f0)).setCell ⟨g', vs.length * 7 + 1, none⟩ (.string x.f1)).setCell ⟨g', vs.length * 7 + 2, none⟩ (.bool x.f2.f0)).setCell ⟨g', vs.length * 7 + 3, none⟩ (.string x.f2.f1)).setCell ⟨g', vs.length * 7 + 4, none⟩ (.slice At x.f2.f2.length ct)).setCell ⟨g', vs.length * 7 + 5, none⟩ (.int .i64 x.f3)).setCell ⟨g', vs.length * 7 + 6, none⟩ (.slice Bt x.f4.length dt)).heap[g]? = some (.cells #[.slice RA vs.length rc, .slice RB ts.length rd] 126 (0, 0)) := blk_far (blk_far (blk_far (blk_far (blk_far (blk_far (blk_far (hB3) (by (try dsimp only); exact hgg) _) (by (try dsimp only); exact hgg) _) (by (try dsimp only); exact hgg) _) (by (try dsimp only); exact hgg) _) (by (try dsimp only); exact hgg) _) (by (try dsimp only); exact hgg) _) (by (try dsimp only); exact hgg) _
            have wc0 := (blk_cell hB4 0).trans rfl
            have rc0 := blk_frozen hB4 0
            refine wpAnyH_ready (rs := [13]) (by kernel_rfl) (by simp) ?_
            refine AllReadyH.cons (o := { dst := none, op := Op.store 25 (Operand.tmp 31) (Operand.tmp 28), type := 0, pos := "terms.go:113", after := #[{ on := 12, ground := Ground.data }, { on := 8, ground := Ground.data }, { on := 8, ground := Ground.chain }, { on := 10, ground := Ground.textOnly Departure.appendInPlace }, { on := 0, ground := Ground.phase }, { on := 1, ground := Ground.phase }, { on := 2, ground := Ground.phase }, { on := 3, ground := Ground.phase }, { on := 4, ground := Ground.phase }, { on := 5, ground := Ground.phase }, { on := 6, ground := Ground.phase }, { on := 7, ground := Ground.phase }, { on := 8, ground := Ground.phase }, { on := 9, ground := Ground.textOnly Departure.appendInPlace }, { on := 10, ground := Ground.textOnly Departure.appendInPlace }], guard := none }) rfl (fun K hK => ?_) AllReadyH.nil
            go_simp
            refine hK.out _ _ (by exact box7 (blk_far (blk_far (blk_far (blk_far (blk_far (blk_far (blk_far (blk_far (hX3) (by (try dsimp only); exact hxg) _) (by (try dsimp only); exact hxg) _) (by (try dsimp only); exact hxg) _) (by (try dsimp only); exact hxg) _) (by (try dsimp only); exact hxg) _) (by (try dsimp only); exact hxg) _) (by (try dsimp only); exact hxg) _) (by (try dsimp only); exact hxg2) _)) (fun hHeld => ?_)
            clear hK K
            try simp only [Act.put, List.setIfInBounds_toArray, List.set_cons_zero, List.set_cons_succ]
            clear hB4 wc0 rc0
            have hW5 := Nt_wa (ut := .slice At x.f2.f2.length ct) (us := .slice Bt x.f4.length dt) (x := x) hil hgb (blk_lt hBc) hBc hvb (by have := hbc.size; have := HBS1.out; omega) hown3 hgr hat
            have hP := Nt_push (ts := ts) hgb HBS1.out HBW1.out hrow hel HU1.out hbc (hT5.mono (fun k hk => Nat.le_trans HLT.out hk)) (hM5.mono (fun k hk => Nat.le_trans HLT.out hk)) hat hW5
            have HS2 := Aside0.mk hP.1
            have HK2 := Aside0.mk (HK1.out.trans hP.2)
            have hX9 := hP.2.blk HBX1.out (by omega) (hnr _ hbW1)
            obtain ⟨x0, x1, x2, x3, x4, x5, x6⟩ := box7 hX9
            clear hW5 hP hB3 hX3 p0 p1 p2 p3 p4 p5 p6 q0 q1 q2 q3 q4 q5 q6 hown3 hgr hat hBc hXc hT5 hM5 hrow hel hX9 hnews
            refine wpAnyH_done (by kernel_rfl) ?_ _
            go_wp2_with fail
            go_meet
            case rel => exact ⟨HS2, HK2, x0, x1, x2, x3, x4, x5, x6⟩
          · have wc0 := (blk_cell hB3 0).trans rfl
            have rc0 := blk_frozen hB3 0
            go_simp
            refine hK.out _ _ (by exact box7 (blk_far hX3 (by (try dsimp only); exact hxg2) _)) (fun hHeld => ?_)
            clear hK K
            try simp only [Act.put, List.setIfInBounds_toArray, List.set_cons_zero, List.set_cons_succ]
            have hown4 := own_move (w1 := w3.setCell ⟨g, 0, none⟩ (.slice (some ⟨g', 0, none⟩) (vs.length + 1) cap)) hown3 (fun k hk => Below.heap_setCell _ _ _ k (own_slice_ne hk hgg))
            clear p0 p1 p2 p3 p4 p5 p6 q0 q1 q2 q3 q4 q5 q6 wc0 rc0
            obtain ⟨p0, p1, p2, p3, p4, p5, p6, q0, q1, q2, q3, q4, q5, q6⟩ := own_cells7 hil hown4
            refine wpAnyH_ready (rs := [10]) (by kernel_rfl) (by simp) ?_
            refine AllReadyH.cons (o := { dst := none, op := Op.store 27 (Operand.tmp 29) (Operand.tmp 25), type := 0, pos := "terms.go:113", after := #[{ on := 9, ground := Ground.data }, { on := 5, ground := Ground.data }, { on := 8, ground := Ground.chain }, { on := 0, ground := Ground.phase }, { on := 1, ground := Ground.phase }, { on := 2, ground := Ground.phase }, { on := 3, ground := Ground.phase }, { on := 4, ground := Ground.phase }, { on := 5, ground := Ground.phase }, { on := 6, ground := Ground.phase }, { on := 7, ground := Ground.phase }, { on := 8, ground := Ground.phase }, { on := 13, ground := Ground.gcOnly Departure.appendInPlace }], guard := none }) rfl (fun K hK => ?_) AllReadyH.nil
            go_simp
            refine hK.out _ _ (by exact box7 (blk_far (blk_far (blk_far (blk_far (blk_far (blk_far (blk_far ((blk_far hX3 (by (try dsimp only); exact hxg2) _)) (by (try dsimp only); exact hxg) _) (by (try dsimp only); exact hxg) _) (by (try dsimp only); exact hxg) _) (by (try dsimp only); exact hxg) _) (by (try dsimp only); exact hxg) _) (by (try dsimp only); exact hxg) _) (by (try dsimp only); exact hxg) _)) (fun hHeld => ?_)
            clear hK K
            try simp only [Act.put, List.setIfInBounds_toArray, List.set_cons_zero, List.set_cons_succ]
            clear hown4
            have hW5 := Nt_wb (ut := .slice At x.f2.f2.length ct) (us := .slice Bt x.f4.length dt) (x := x) hil hgb (blk_lt hBc) hBc hvb (by have := hbc.size; have := HBS1.out; omega) hown3 hgr hat
            have hP := Nt_push (ts := ts) hgb HBS1.out HBW1.out hrow hel HU1.out hbc (hT5.mono (fun k hk => Nat.le_trans HLT.out hk)) (hM5.mono (fun k hk => Nat.le_trans HLT.out hk)) hat hW5
            have HS2 := Aside0.mk hP.1
            have HK2 := Aside0.mk (HK1.out.trans hP.2)
            have hX9 := hP.2.blk HBX1.out (by omega) (hnr _ hbW1)
            obtain ⟨x0, x1, x2, x3, x4, x5, x6⟩ := box7 hX9
            clear hW5 hP hB3 hX3 p0 p1 p2 p3 p4 p5 p6 q0 q1 q2 q3 q4 q5 q6 hown3 hgr hat hBc hXc hT5 hM5 hrow hel hX9 hnews
            refine wpAnyH_done (by kernel_rfl) ?_ _
            go_wp2_with fail
            go_meet
            case rel => exact ⟨HS2, HK2, x0, x1, x2, x3, x4, x5, x6⟩
      · go_simp
        replace hbc := below_drew1 (below_one (w := W1) (.cells #[.int .u8 0, .string ⟨#[]⟩, .bool false, .string ⟨#[]⟩, .slice none 0 0, .int .i64 0, .slice none 0 0] 27))
        replace hBc := blk_below HBW1.out hbc
        replace hXc := blk_below HBX1.out hbc
        have hnews := blk_below (blk_new W1 (.cells #[.int .u8 0, .string ⟨#[]⟩, .bool false, .string ⟨#[]⟩, .slice none 0 0, .int .i64 0, .slice none 0 0] 27)) (below_drew1 (Below.refl _ _))
        refine hK.out _ _ (by exact box7 hXc) (fun hHeld => ?_)
        clear hK K
        try simp only [Act.put, List.setIfInBounds_toArray, List.set_cons_zero, List.set_cons_succ]
        refine wpAnyH_ready (rs := [3, 5]) (by kernel_rfl) (by simp) ?_
        refine AllReadyH.cons (o := { dst := some 23, op := Op.load 25 (Operand.tmp 22), type := 25, pos := "terms.go:113", after := #[{ on := 2, ground := Ground.data }], guard := none }) rfl (fun K hK => ?_) (AllReadyH.cons (o := { dst := some 25, op := Op.call { callee := Callee.value (Operand.func 28), args := #[Operand.tmp 24], argTypes := #[27] }, type := 27, pos := "terms.go:113", after := #[{ on := 4, ground := Ground.data }], guard := none }) rfl (fun K hK => ?_) AllReadyH.nil)
        · have wc0 := (blk_cell hBc 0).trans rfl
          go_simp
          refine hK.out _ _ (by exact box7 hXc) (fun hHeld => ?_)
          clear hK K
          try simp only [Act.put, List.setIfInBounds_toArray, List.set_cons_zero, List.set_cons_succ]
          refine wpAnyH_take (i := 6) (oi := { dst := some 26, op := Op.call { callee := Callee.builtin Builtin.len, args := #[Operand.tmp 23], argTypes := #[25] }, type := 3, pos := "terms.go:113", after := #[{ on := 3, ground := Ground.data }], guard := none }) (v := ?_) rfl (by kernel_rfl) (by kernel_rfl) (by kernel_rfl) (fun _ _ _ h => h) (Or.inl ⟨by rfl, ?_⟩) (by assumption) ?_
          rotate_left
          · intro w' hSw; (try dsimp only at hSw); go_simp; try with_reducible rfl
          try simp only [Act.put, List.setIfInBounds_toArray, List.set_cons_zero, List.set_cons_succ]
          refine wpAnyH_ready (rs := [5]) (by kernel_rfl) (by simp) ?_
          refine AllReadyH.cons (o := { dst := some 25, op := Op.call { callee := Callee.value (Operand.func 28), args := #[Operand.tmp 24], argTypes := #[27] }, type := 27, pos := "terms.go:113", after := #[{ on := 4, ground := Ground.data }], guard := none }) rfl (fun K hK => ?_) AllReadyH.nil
          go_simp
          go_wp2_with (go_at_call 28; (with_reducible refine (et _ hbc).mono ?_); rintro e w5 ⟨r5, rfl, hO5, hb5⟩; obtain ⟨vt, vs5, hr5, hT5, hM5⟩ := hO5; subst hr5; obtain ⟨At, ct, hvt, _, _⟩ := hT5.reads; subst hvt; obtain ⟨Bt, dt, hvs, _, _⟩ := hM5.reads; subst hvs)
          have HLT := Aside0.mk hbc.size
          replace hBc := blk_below hBc hb5
          replace hXc := blk_below hXc hb5
          have hnews := blk_below hnews hb5
          replace hbc := below_step hbc hb5
          refine hK.out _ _ (by exact box7 hXc) (fun hHeld => ?_)
          clear hK K
          try simp only [Act.put, List.setIfInBounds_toArray, List.set_cons_zero, List.set_cons_succ]
          obtain ⟨i0, hi0, hz0, hz1, hz2⟩ := info_parts info27
          obtain ⟨inner, tsf, ssf, hrow, hel⟩ := id HV1.out
          have hlow : ∀ k, W1.heap.size ≤ k → w.heap.size ≤ k := fun k hk => Nat.le_trans (Nat.le_of_lt (blk_lt HBX1.out)) hk
          refine wpAnyH_ready (rs := [8]) (by kernel_rfl) (by simp) ?_
          refine AllReadyH.cons (o := { dst := some 28, op := Op.call { callee := Callee.builtin Builtin.append, args := #[Operand.tmp 23, Operand.tmp 27], argTypes := #[25, 25] }, type := 25, pos := "terms.go:113", after := #[{ on := 3, ground := Ground.data }, { on := 7, ground := Ground.data }, { on := 5, ground := Ground.chain }, { on := 0, ground := Ground.phase }, { on := 1, ground := Ground.phase }, { on := 2, ground := Ground.phase }, { on := 3, ground := Ground.phase }, { on := 4, ground := Ground.phase }, { on := 5, ground := Ground.phase }, { on := 6, ground := Ground.phase }, { on := 7, ground := Ground.phase }], guard := none }) rfl (fun K hK => ?_) AllReadyH.nil
          refine step_append_lies _ rfl _ _ 25 rfl base 27 i0 _ 7 104 Try.underlying25 hi0 hz0 hz1 hz2 rfl (by decide) (.slice RA vs.length rc) vs.length inner rfl (own_later hrow hbc) ⟨W1.heap.size, 0, none⟩ 1 1 [.int .u8 0, .string ⟨#[]⟩, .bool false, .string ⟨#[]⟩, .slice none 0 0, .int .i64 0, .slice none 0 0] rfl rfl (World.news_of_block hnews) ?hone (by decide) ?h63 ?hby ?hbase _ rfl ?_
          case hone => simp [Value.oneCell']
          case h63 => have := HVL.out; unfold maxLen; omega
          case hby => have := HVL.out; omega
          case hbase => have := hbc.size; have := HBS1.out; omega
          intro g' cap w3 hown3 hgr hat hg3
          have hvb : ∀ k, (Value.slice RA vs.length rc).ownBlock = some k → base ≤ k := fun k hk => own_base hrow k hk
          have hvx : some w.heap.size ≠ (Value.slice RA vs.length rc).ownBlock := fun e => hnr _ hbW1 ⟨_, _, HBW1.out, .inl e.symm⟩
          have hB3 := (hgr.block g (blk_lt hBc) (fun e => by have := hvb g e.symm; omega)).trans hBc
          have hX3 := (hgr.block w.heap.size (blk_lt hXc) hvx).trans hXc
          have hil : inner.length = vs.length * 7 := hrow.1
          have hl1 : (vs.length : Int) < (vs.length : Int) + 1 := by omega
          obtain ⟨p0, p1, p2, p3, p4, p5, p6, q0, q1, q2, q3, q4, q5, q6⟩ := own_cells7 hil hown3
          refine hK.out _ _ (by exact box7 hX3) (fun hHeld => ?_)
          clear hK K
          try simp only [Act.put, List.setIfInBounds_toArray, List.set_cons_zero, List.set_cons_succ]
          refine wpAnyH_take (i := 9) (oi := { dst := some 29, op := Op.indexAddr 25 (Operand.tmp 28) (Operand.tmp 26), type := 0, pos := "terms.go:113", after := #[{ on := 8, ground := Ground.data }, { on := 6, ground := Ground.data }, { on := 0, ground := Ground.phase }, { on := 1, ground := Ground.phase }, { on := 2, ground := Ground.phase }, { on := 3, ground := Ground.phase }, { on := 4, ground := Ground.phase }, { on := 5, ground := Ground.phase }, { on := 6, ground := Ground.phase }, { on := 7, ground := Ground.phase }, { on := 8, ground := Ground.phase }, { on := 13, ground := Ground.gcOnly Departure.appendInPlace }], guard := none }) (v := ?_) rfl (by kernel_rfl) (by kernel_rfl) (by kernel_rfl) (fun _ _ _ h => h) (Or.inl ⟨by rfl, ?_⟩) (by assumption) ?_
          rotate_left
          · intro w' hSw; (try dsimp only at hSw); go_simp; try with_reducible rfl
          try simp only [Act.put, List.setIfInBounds_toArray, List.set_cons_zero, List.set_cons_succ]
          refine wpAnyH_take (i := 11) (oi := { dst := some 30, op := Op.nilCheck (Operand.tmp 20), type := 0, pos := "terms.go:113", after := #[{ on := 0, ground := Ground.data }, { on := 0, ground := Ground.phase }, { on := 1, ground := Ground.phase }, { on := 2, ground := Ground.phase }, { on := 3, ground := Ground.phase }, { on := 4, ground := Ground.phase }, { on := 5, ground := Ground.phase }, { on := 6, ground := Ground.phase }, { on := 7, ground := Ground.phase }, { on := 8, ground := Ground.phase }, { on := 9, ground := Ground.textOnly Departure.appendInPlace }, { on := 10, ground := Ground.textOnly Departure.appendInPlace }], guard := none }) (v := ?_) rfl (by kernel_rfl) (by kernel_rfl) (by kernel_rfl) (fun _ _ _ h => h) (Or.inl ⟨by rfl, ?_⟩) (by assumption) ?_
          rotate_left
          · intro w' hSw; (try dsimp only at hSw); go_simp; try with_reducible rfl
          try simp only [Act.put, List.setIfInBounds_toArray, List.set_cons_zero, List.set_cons_succ]
          refine wpAnyH_take (i := 12) (oi := { dst := some 31, op := Op.fieldAddr 126 (Operand.tmp 30) 0, type := 0, pos := "terms.go:113", after := #[{ on := 11, ground := Ground.data }, { on := 0, ground := Ground.phase }, { on := 1, ground := Ground.phase }, { on := 2, ground := Ground.phase }, { on := 3, ground := Ground.phase }, { on := 4, ground := Ground.phase }, { on := 5, ground := Ground.phase }, { on := 6, ground := Ground.phase }, { on := 7, ground := Ground.phase }, { on := 8, ground := Ground.phase }, { on := 9, ground := Ground.textOnly Departure.appendInPlace }, { on := 10, ground := Ground.textOnly Departure.appendInPlace }], guard := none }) (v := ?_) rfl (by kernel_rfl) (by kernel_rfl) (by kernel_rfl) (fun _ _ _ h => h) (Or.inl ⟨by rfl, ?_⟩) (by assumption) ?_
          rotate_left
          · intro w' hSw; (try dsimp only at hSw); go_simp; try with_reducible rfl
          try simp only [Act.put, List.setIfInBounds_toArray, List.set_cons_zero, List.set_cons_succ]
          have hgg : g ≠ g' := fun e => by
            rcases hat with h | h
            · have := hvb _ h; omega
            · have := blk_lt hBc; omega
          have hxg : w.heap.size ≠ g' := fun e => by
            rcases hat with h | h
            · exact hvx (by rw [e, h])
            · have := blk_lt hXc; omega
          have hxg2 : w.heap.size ≠ g := by omega
          refine wpAnyH_ready (rs := [10, 13]) (by kernel_rfl) (by simp) ?_
          refine AllReadyH.cons (o := { dst := none, op := Op.store 27 (Operand.tmp 29) (Operand.tmp 25), type := 0, pos := "terms.go:113", after := #[{ on := 9, ground := Ground.data }, { on := 5, ground := Ground.data }, { on := 8, ground := Ground.chain }, { on := 0, ground := Ground.phase }, { on := 1, ground := Ground.phase }, { on := 2, ground := Ground.phase }, { on := 3, ground := Ground.phase }, { on := 4, ground := Ground.phase }, { on := 5, ground := Ground.phase }, { on := 6, ground := Ground.phase }, { on := 7, ground := Ground.phase }, { on := 8, ground := Ground.phase }, { on := 13, ground := Ground.gcOnly Departure.appendInPlace }], guard := none }) rfl (fun K hK => ?_) (AllReadyH.cons (o := { dst := none, op := Op.store 25 (Operand.tmp 31) (Operand.tmp 28), type := 0, pos := "terms.go:113", after := #[{ on := 12, ground := Ground.data }, { on := 8, ground := Ground.data }, { on := 8, ground := Ground.chain }, { on := 10, ground := Ground.textOnly Departure.appendInPlace }, { on := 0, ground := Ground.phase }, { on := 1, ground := Ground.phase }, { on := 2, ground := Ground.phase }, { on := 3, ground := Ground.phase }, { on := 4, ground := Ground.phase }, { on := 5, ground := Ground.phase }, { on := 6, ground := Ground.phase }, { on := 7, ground := Ground.phase }, { on := 8, ground := Ground.phase }, { on := 9, ground := Ground.textOnly Departure.appendInPlace }, { on := 10, ground := Ground.textOnly Departure.appendInPlace }], guard := none }) rfl (fun K hK => ?_) AllReadyH.nil)
          · go_simp
            refine hK.out _ _ (by exact box7 (blk_far (blk_far (blk_far (blk_far (blk_far (blk_far (blk_far (hX3) (by (try dsimp only); exact hxg) _) (by (try dsimp only); exact hxg) _) (by (try dsimp only); exact hxg) _) (by (try dsimp only); exact hxg) _) (by (try dsimp only); exact hxg) _) (by (try dsimp only); exact hxg) _) (by (try dsimp only); exact hxg) _)) (fun hHeld => ?_)
            clear hK K
            try simp only [Act.put, List.setIfInBounds_toArray, List.set_cons_zero, List.set_cons_succ]
            have hB4 : ((((((((w3).setCell ⟨g', vs.length * 7, none⟩ (.int .u8 x.f0)).setCell ⟨g', vs.length * 7 + 1, none⟩ (.string x.f1)).setCell ⟨g', vs.length * 7 + 2, none⟩ (.bool x.f2.f0)).setCell ⟨g', vs.length * 7 + 3, none⟩ (.string x.f2.f1)).setCell ⟨g', vs.length * 7 + 4, none⟩ (.slice At x.f2.f2.length ct)).setCell ⟨g', vs.length * 7 + 5, none⟩ (.int .i64 x.f3)).setCell ⟨g', vs.length * 7 + 6, none⟩ (.slice Bt x.f4.length dt)).heap[g]? = some (.cells #[.slice RA vs.length rc, .slice RB ts.length rd] 126 (0, 0)) := blk_far (blk_far (blk_far (blk_far (blk_far (blk_far (blk_far (hB3) (by (try dsimp only); exact hgg) _) (by (try dsimp only); exact hgg) _) (by (try dsimp only); exact hgg) _) (by (try dsimp only); exact hgg) _) (by (try dsimp only); exact hgg) _) (by (try dsimp only); exact hgg) _) (by (try dsimp only); exact hgg) _
            have wc0 := (blk_cell hB4 0).trans rfl
            have rc0 := blk_frozen hB4 0
            refine wpAnyH_ready (rs := [13]) (by kernel_rfl) (by simp) ?_
            refine AllReadyH.cons (o := { dst := none, op := Op.store 25 (Operand.tmp 31) (Operand.tmp 28), type := 0, pos := "terms.go:113", after := #[{ on := 12, ground := Ground.data }, { on := 8, ground := Ground.data }, { on := 8, ground := Ground.chain }, { on := 10, ground := Ground.textOnly Departure.appendInPlace }, { on := 0, ground := Ground.phase }, { on := 1, ground := Ground.phase }, { on := 2, ground := Ground.phase }, { on := 3, ground := Ground.phase }, { on := 4, ground := Ground.phase }, { on := 5, ground := Ground.phase }, { on := 6, ground := Ground.phase }, { on := 7, ground := Ground.phase }, { on := 8, ground := Ground.phase }, { on := 9, ground := Ground.textOnly Departure.appendInPlace }, { on := 10, ground := Ground.textOnly Departure.appendInPlace }], guard := none }) rfl (fun K hK => ?_) AllReadyH.nil
            go_simp
            refine hK.out _ _ (by exact box7 (blk_far (blk_far (blk_far (blk_far (blk_far (blk_far (blk_far (blk_far (hX3) (by (try dsimp only); exact hxg) _) (by (try dsimp only); exact hxg) _) (by (try dsimp only); exact hxg) _) (by (try dsimp only); exact hxg) _) (by (try dsimp only); exact hxg) _) (by (try dsimp only); exact hxg) _) (by (try dsimp only); exact hxg) _) (by (try dsimp only); exact hxg2) _)) (fun hHeld => ?_)
            clear hK K
            try simp only [Act.put, List.setIfInBounds_toArray, List.set_cons_zero, List.set_cons_succ]
            clear hB4 wc0 rc0
            have hW5 := Nt_wa (ut := .slice At x.f2.f2.length ct) (us := .slice Bt x.f4.length dt) (x := x) hil hgb (blk_lt hBc) hBc hvb (by have := hbc.size; have := HBS1.out; omega) hown3 hgr hat
            have hP := Nt_push (ts := ts) hgb HBS1.out HBW1.out hrow hel HU1.out hbc (hT5.mono (fun k hk => Nat.le_trans HLT.out hk)) (hM5.mono (fun k hk => Nat.le_trans HLT.out hk)) hat hW5
            have HS2 := Aside0.mk hP.1
            have HK2 := Aside0.mk (HK1.out.trans hP.2)
            have hX9 := hP.2.blk HBX1.out (by omega) (hnr _ hbW1)
            obtain ⟨x0, x1, x2, x3, x4, x5, x6⟩ := box7 hX9
            clear hW5 hP hB3 hX3 p0 p1 p2 p3 p4 p5 p6 q0 q1 q2 q3 q4 q5 q6 hown3 hgr hat hBc hXc hT5 hM5 hrow hel hX9 hnews
            refine wpAnyH_done (by kernel_rfl) ?_ _
            go_wp2_with fail
            go_meet
            case rel => exact ⟨HS2, HK2, x0, x1, x2, x3, x4, x5, x6⟩
          · have wc0 := (blk_cell hB3 0).trans rfl
            have rc0 := blk_frozen hB3 0
            go_simp
            refine hK.out _ _ (by exact box7 (blk_far hX3 (by (try dsimp only); exact hxg2) _)) (fun hHeld => ?_)
            clear hK K
            try simp only [Act.put, List.setIfInBounds_toArray, List.set_cons_zero, List.set_cons_succ]
            have hown4 := own_move (w1 := w3.setCell ⟨g, 0, none⟩ (.slice (some ⟨g', 0, none⟩) (vs.length + 1) cap)) hown3 (fun k hk => Below.heap_setCell _ _ _ k (own_slice_ne hk hgg))
            clear p0 p1 p2 p3 p4 p5 p6 q0 q1 q2 q3 q4 q5 q6 wc0 rc0
            obtain ⟨p0, p1, p2, p3, p4, p5, p6, q0, q1, q2, q3, q4, q5, q6⟩ := own_cells7 hil hown4
            refine wpAnyH_ready (rs := [10]) (by kernel_rfl) (by simp) ?_
            refine AllReadyH.cons (o := { dst := none, op := Op.store 27 (Operand.tmp 29) (Operand.tmp 25), type := 0, pos := "terms.go:113", after := #[{ on := 9, ground := Ground.data }, { on := 5, ground := Ground.data }, { on := 8, ground := Ground.chain }, { on := 0, ground := Ground.phase }, { on := 1, ground := Ground.phase }, { on := 2, ground := Ground.phase }, { on := 3, ground := Ground.phase }, { on := 4, ground := Ground.phase }, { on := 5, ground := Ground.phase }, { on := 6, ground := Ground.phase }, { on := 7, ground := Ground.phase }, { on := 8, ground := Ground.phase }, { on := 13, ground := Ground.gcOnly Departure.appendInPlace }], guard := none }) rfl (fun K hK => ?_) AllReadyH.nil
            go_simp
            refine hK.out _ _ (by exact box7 (blk_far (blk_far (blk_far (blk_far (blk_far (blk_far (blk_far ((blk_far hX3 (by (try dsimp only); exact hxg2) _)) (by (try dsimp only); exact hxg) _) (by (try dsimp only); exact hxg) _) (by (try dsimp only); exact hxg) _) (by (try dsimp only); exact hxg) _) (by (try dsimp only); exact hxg) _) (by (try dsimp only); exact hxg) _) (by (try dsimp only); exact hxg) _)) (fun hHeld => ?_)
            clear hK K
            try simp only [Act.put, List.setIfInBounds_toArray, List.set_cons_zero, List.set_cons_succ]
            clear hown4
            have hW5 := Nt_wb (ut := .slice At x.f2.f2.length ct) (us := .slice Bt x.f4.length dt) (x := x) hil hgb (blk_lt hBc) hBc hvb (by have := hbc.size; have := HBS1.out; omega) hown3 hgr hat
            have hP := Nt_push (ts := ts) hgb HBS1.out HBW1.out hrow hel HU1.out hbc (hT5.mono (fun k hk => Nat.le_trans HLT.out hk)) (hM5.mono (fun k hk => Nat.le_trans HLT.out hk)) hat hW5
            have HS2 := Aside0.mk hP.1
            have HK2 := Aside0.mk (HK1.out.trans hP.2)
            have hX9 := hP.2.blk HBX1.out (by omega) (hnr _ hbW1)
            obtain ⟨x0, x1, x2, x3, x4, x5, x6⟩ := box7 hX9
            clear hW5 hP hB3 hX3 p0 p1 p2 p3 p4 p5 p6 q0 q1 q2 q3 q4 q5 q6 hown3 hgr hat hBc hXc hT5 hM5 hrow hel hX9 hnews
            refine wpAnyH_done (by kernel_rfl) ?_ _
            go_wp2_with fail
            go_meet
            case rel => exact ⟨HS2, HK2, x0, x1, x2, x3, x4, x5, x6⟩
        · go_simp
          go_wp2_with (go_at_call 28; (with_reducible refine (et _ hbc).mono ?_); rintro e w5 ⟨r5, rfl, hO5, hb5⟩; obtain ⟨vt, vs5, hr5, hT5, hM5⟩ := hO5; subst hr5; obtain ⟨At, ct, hvt, _, _⟩ := hT5.reads; subst hvt; obtain ⟨Bt, dt, hvs, _, _⟩ := hM5.reads; subst hvs)
          have HLT := Aside0.mk hbc.size
          replace hBc := blk_below hBc hb5
          replace hXc := blk_below hXc hb5
          have hnews := blk_below hnews hb5
          replace hbc := below_step hbc hb5
          refine hK.out _ _ (by exact box7 hXc) (fun hHeld => ?_)
          clear hK K
          try simp only [Act.put, List.setIfInBounds_toArray, List.set_cons_zero, List.set_cons_succ]
          refine wpAnyH_ready (rs := [3]) (by kernel_rfl) (by simp) ?_
          refine AllReadyH.cons (o := { dst := some 23, op := Op.load 25 (Operand.tmp 22), type := 25, pos := "terms.go:113", after := #[{ on := 2, ground := Ground.data }], guard := none }) rfl (fun K hK => ?_) AllReadyH.nil
          have wc0 := (blk_cell hBc 0).trans rfl
          go_simp
          refine hK.out _ _ (by exact box7 hXc) (fun hHeld => ?_)
          clear hK K
          try simp only [Act.put, List.setIfInBounds_toArray, List.set_cons_zero, List.set_cons_succ]
          refine wpAnyH_take (i := 6) (oi := { dst := some 26, op := Op.call { callee := Callee.builtin Builtin.len, args := #[Operand.tmp 23], argTypes := #[25] }, type := 3, pos := "terms.go:113", after := #[{ on := 3, ground := Ground.data }], guard := none }) (v := ?_) rfl (by kernel_rfl) (by kernel_rfl) (by kernel_rfl) (fun _ _ _ h => h) (Or.inl ⟨by rfl, ?_⟩) (by assumption) ?_
          rotate_left
          · intro w' hSw; (try dsimp only at hSw); go_simp; try with_reducible rfl
          try simp only [Act.put, List.setIfInBounds_toArray, List.set_cons_zero, List.set_cons_succ]
          obtain ⟨i0, hi0, hz0, hz1, hz2⟩ := info_parts info27
          obtain ⟨inner, tsf, ssf, hrow, hel⟩ := id HV1.out
          have hlow : ∀ k, W1.heap.size ≤ k → w.heap.size ≤ k := fun k hk => Nat.le_trans (Nat.le_of_lt (blk_lt HBX1.out)) hk
          refine wpAnyH_ready (rs := [8]) (by kernel_rfl) (by simp) ?_
          refine AllReadyH.cons (o := { dst := some 28, op := Op.call { callee := Callee.builtin Builtin.append, args := #[Operand.tmp 23, Operand.tmp 27], argTypes := #[25, 25] }, type := 25, pos := "terms.go:113", after := #[{ on := 3, ground := Ground.data }, { on := 7, ground := Ground.data }, { on := 5, ground := Ground.chain }, { on := 0, ground := Ground.phase }, { on := 1, ground := Ground.phase }, { on := 2, ground := Ground.phase }, { on := 3, ground := Ground.phase }, { on := 4, ground := Ground.phase }, { on := 5, ground := Ground.phase }, { on := 6, ground := Ground.phase }, { on := 7, ground := Ground.phase }], guard := none }) rfl (fun K hK => ?_) AllReadyH.nil
          refine step_append_lies _ rfl _ _ 25 rfl base 27 i0 _ 7 104 Try.underlying25 hi0 hz0 hz1 hz2 rfl (by decide) (.slice RA vs.length rc) vs.length inner rfl (own_later hrow hbc) ⟨W1.heap.size, 0, none⟩ 1 1 [.int .u8 0, .string ⟨#[]⟩, .bool false, .string ⟨#[]⟩, .slice none 0 0, .int .i64 0, .slice none 0 0] rfl rfl (World.news_of_block hnews) ?hone (by decide) ?h63 ?hby ?hbase _ rfl ?_
          case hone => simp [Value.oneCell']
          case h63 => have := HVL.out; unfold maxLen; omega
          case hby => have := HVL.out; omega
          case hbase => have := hbc.size; have := HBS1.out; omega
          intro g' cap w3 hown3 hgr hat hg3
          have hvb : ∀ k, (Value.slice RA vs.length rc).ownBlock = some k → base ≤ k := fun k hk => own_base hrow k hk
          have hvx : some w.heap.size ≠ (Value.slice RA vs.length rc).ownBlock := fun e => hnr _ hbW1 ⟨_, _, HBW1.out, .inl e.symm⟩
          have hB3 := (hgr.block g (blk_lt hBc) (fun e => by have := hvb g e.symm; omega)).trans hBc
          have hX3 := (hgr.block w.heap.size (blk_lt hXc) hvx).trans hXc
          have hil : inner.length = vs.length * 7 := hrow.1
          have hl1 : (vs.length : Int) < (vs.length : Int) + 1 := by omega
          obtain ⟨p0, p1, p2, p3, p4, p5, p6, q0, q1, q2, q3, q4, q5, q6⟩ := own_cells7 hil hown3
          refine hK.out _ _ (by exact box7 hX3) (fun hHeld => ?_)
          clear hK K
          try simp only [Act.put, List.setIfInBounds_toArray, List.set_cons_zero, List.set_cons_succ]
          refine wpAnyH_take (i := 9) (oi := { dst := some 29, op := Op.indexAddr 25 (Operand.tmp 28) (Operand.tmp 26), type := 0, pos := "terms.go:113", after := #[{ on := 8, ground := Ground.data }, { on := 6, ground := Ground.data }, { on := 0, ground := Ground.phase }, { on := 1, ground := Ground.phase }, { on := 2, ground := Ground.phase }, { on := 3, ground := Ground.phase }, { on := 4, ground := Ground.phase }, { on := 5, ground := Ground.phase }, { on := 6, ground := Ground.phase }, { on := 7, ground := Ground.phase }, { on := 8, ground := Ground.phase }, { on := 13, ground := Ground.gcOnly Departure.appendInPlace }], guard := none }) (v := ?_) rfl (by kernel_rfl) (by kernel_rfl) (by kernel_rfl) (fun _ _ _ h => h) (Or.inl ⟨by rfl, ?_⟩) (by assumption) ?_
          rotate_left
          · intro w' hSw; (try dsimp only at hSw); go_simp; try with_reducible rfl
          try simp only [Act.put, List.setIfInBounds_toArray, List.set_cons_zero, List.set_cons_succ]
          refine wpAnyH_take (i := 11) (oi := { dst := some 30, op := Op.nilCheck (Operand.tmp 20), type := 0, pos := "terms.go:113", after := #[{ on := 0, ground := Ground.data }, { on := 0, ground := Ground.phase }, { on := 1, ground := Ground.phase }, { on := 2, ground := Ground.phase }, { on := 3, ground := Ground.phase }, { on := 4, ground := Ground.phase }, { on := 5, ground := Ground.phase }, { on := 6, ground := Ground.phase }, { on := 7, ground := Ground.phase }, { on := 8, ground := Ground.phase }, { on := 9, ground := Ground.textOnly Departure.appendInPlace }, { on := 10, ground := Ground.textOnly Departure.appendInPlace }], guard := none }) (v := ?_) rfl (by kernel_rfl) (by kernel_rfl) (by kernel_rfl) (fun _ _ _ h => h) (Or.inl ⟨by rfl, ?_⟩) (by assumption) ?_
          rotate_left
          · intro w' hSw; (try dsimp only at hSw); go_simp; try with_reducible rfl
          try simp only [Act.put, List.setIfInBounds_toArray, List.set_cons_zero, List.set_cons_succ]
          refine wpAnyH_take (i := 12) (oi := { dst := some 31, op := Op.fieldAddr 126 (Operand.tmp 30) 0, type := 0, pos := "terms.go:113", after := #[{ on := 11, ground := Ground.data }, { on := 0, ground := Ground.phase }, { on := 1, ground := Ground.phase }, { on := 2, ground := Ground.phase }, { on := 3, ground := Ground.phase }, { on := 4, ground := Ground.phase }, { on := 5, ground := Ground.phase }, { on := 6, ground := Ground.phase }, { on := 7, ground := Ground.phase }, { on := 8, ground := Ground.phase }, { on := 9, ground := Ground.textOnly Departure.appendInPlace }, { on := 10, ground := Ground.textOnly Departure.appendInPlace }], guard := none }) (v := ?_) rfl (by kernel_rfl) (by kernel_rfl) (by kernel_rfl) (fun _ _ _ h => h) (Or.inl ⟨by rfl, ?_⟩) (by assumption) ?_
          rotate_left
          · intro w' hSw; (try dsimp only at hSw); go_simp; try with_reducible rfl
          try simp only [Act.put, List.setIfInBounds_toArray, List.set_cons_zero, List.set_cons_succ]
          have hgg : g ≠ g' := fun e => by
            rcases hat with h | h
            · have := hvb _ h; omega
            · have := blk_lt hBc; omega
          have hxg : w.heap.size ≠ g' := fun e => by
            rcases hat with h | h
            · exact hvx (by rw [e, h])
            · have := blk_lt hXc; omega
          have hxg2 : w.heap.size ≠ g := by omega
          refine wpAnyH_ready (rs := [10, 13]) (by kernel_rfl) (by simp) ?_
          refine AllReadyH.cons (o := { dst := none, op := Op.store 27 (Operand.tmp 29) (Operand.tmp 25), type := 0, pos := "terms.go:113", after := #[{ on := 9, ground := Ground.data }, { on := 5, ground := Ground.data }, { on := 8, ground := Ground.chain }, { on := 0, ground := Ground.phase }, { on := 1, ground := Ground.phase }, { on := 2, ground := Ground.phase }, { on := 3, ground := Ground.phase }, { on := 4, ground := Ground.phase }, { on := 5, ground := Ground.phase }, { on := 6, ground := Ground.phase }, { on := 7, ground := Ground.phase }, { on := 8, ground := Ground.phase }, { on := 13, ground := Ground.gcOnly Departure.appendInPlace }], guard := none }) rfl (fun K hK => ?_) (AllReadyH.cons (o := { dst := none, op := Op.store 25 (Operand.tmp 31) (Operand.tmp 28), type := 0, pos := "terms.go:113", after := #[{ on := 12, ground := Ground.data }, { on := 8, ground := Ground.data }, { on := 8, ground := Ground.chain }, { on := 10, ground := Ground.textOnly Departure.appendInPlace }, { on := 0, ground := Ground.phase }, { on := 1, ground := Ground.phase }, { on := 2, ground := Ground.phase }, { on := 3, ground := Ground.phase }, { on := 4, ground := Ground.phase }, { on := 5, ground := Ground.phase }, { on := 6, ground := Ground.phase }, { on := 7, ground := Ground.phase }, { on := 8, ground := Ground.phase }, { on := 9, ground := Ground.textOnly Departure.appendInPlace }, { on := 10, ground := Ground.textOnly Departure.appendInPlace }], guard := none }) rfl (fun K hK => ?_) AllReadyH.nil)
          · go_simp
            refine hK.out _ _ (by exact box7 (blk_far (blk_far (blk_far (blk_far (blk_far (blk_far (blk_far (hX3) (by (try dsimp only); exact hxg) _) (by (try dsimp only); exact hxg) _) (by (try dsimp only); exact hxg) _) (by (try dsimp only); exact hxg) _) (by (try dsimp only); exact hxg) _) (by (try dsimp only); exact hxg) _) (by (try dsimp only); exact hxg) _)) (fun hHeld => ?_)
            clear hK K
            try simp only [Act.put, List.setIfInBounds_toArray, List.set_cons_zero, List.set_cons_succ]
            have hB4 : ((((((((w3).setCell ⟨g', vs.length * 7, none⟩ (.int .u8 x.f0)).setCell ⟨g', vs.length * 7 + 1, none⟩ (.string x.f1)).setCell ⟨g', vs.length * 7 + 2, none⟩ (.bool x.f2.f0)).setCell ⟨g', vs.length * 7 + 3, none⟩ (.string x.f2.f1)).setCell ⟨g', vs.length * 7 + 4, none⟩ (.slice At x.f2.f2.length ct)).setCell ⟨g', vs.length * 7 + 5, none⟩ (.int .i64 x.f3)).setCell ⟨g', vs.length * 7 + 6, none⟩ (.slice Bt x.f4.length dt)).heap[g]? = some (.cells #[.slice RA vs.length rc, .slice RB ts.length rd] 126 (0, 0)) := blk_far (blk_far (blk_far (blk_far (blk_far (blk_far (blk_far (hB3) (by (try dsimp only); exact hgg) _) (by (try dsimp only); exact hgg) _) (by (try dsimp only); exact hgg) _) (by (try dsimp only); exact hgg) _) (by (try dsimp only); exact hgg) _) (by (try dsimp only); exact hgg) _) (by (try dsimp only); exact hgg) _
            have wc0 := (blk_cell hB4 0).trans rfl
            have rc0 := blk_frozen hB4 0
            refine wpAnyH_ready (rs := [13]) (by kernel_rfl) (by simp) ?_
            refine AllReadyH.cons (o := { dst := none, op := Op.store 25 (Operand.tmp 31) (Operand.tmp 28), type := 0, pos := "terms.go:113", after := #[{ on := 12, ground := Ground.data }, { on := 8, ground := Ground.data }, { on := 8, ground := Ground.chain }, { on := 10, ground := Ground.textOnly Departure.appendInPlace }, { on := 0, ground := Ground.phase }, { on := 1, ground := Ground.phase }, { on := 2, ground := Ground.phase }, { on := 3, ground := Ground.phase }, { on := 4, ground := Ground.phase }, { on := 5, ground := Ground.phase }, { on := 6, ground := Ground.phase }, { on := 7, ground := Ground.phase }, { on := 8, ground := Ground.phase }, { on := 9, ground := Ground.textOnly Departure.appendInPlace }, { on := 10, ground := Ground.textOnly Departure.appendInPlace }], guard := none }) rfl (fun K hK => ?_) AllReadyH.nil
            go_simp
            refine hK.out _ _ (by exact box7 (blk_far (blk_far (blk_far (blk_far (blk_far (blk_far (blk_far (blk_far (hX3) (by (try dsimp only); exact hxg) _) (by (try dsimp only); exact hxg) _) (by (try dsimp only); exact hxg) _) (by (try dsimp only); exact hxg) _) (by (try dsimp only); exact hxg) _) (by (try dsimp only); exact hxg) _) (by (try dsimp only); exact hxg) _) (by (try dsimp only); exact hxg2) _)) (fun hHeld => ?_)
            clear hK K
            try simp only [Act.put, List.setIfInBounds_toArray, List.set_cons_zero, List.set_cons_succ]
            clear hB4 wc0 rc0
            have hW5 := Nt_wa (ut := .slice At x.f2.f2.length ct) (us := .slice Bt x.f4.length dt) (x := x) hil hgb (blk_lt hBc) hBc hvb (by have := hbc.size; have := HBS1.out; omega) hown3 hgr hat
            have hP := Nt_push (ts := ts) hgb HBS1.out HBW1.out hrow hel HU1.out hbc (hT5.mono (fun k hk => Nat.le_trans HLT.out hk)) (hM5.mono (fun k hk => Nat.le_trans HLT.out hk)) hat hW5
            have HS2 := Aside0.mk hP.1
            have HK2 := Aside0.mk (HK1.out.trans hP.2)
            have hX9 := hP.2.blk HBX1.out (by omega) (hnr _ hbW1)
            obtain ⟨x0, x1, x2, x3, x4, x5, x6⟩ := box7 hX9
            clear hW5 hP hB3 hX3 p0 p1 p2 p3 p4 p5 p6 q0 q1 q2 q3 q4 q5 q6 hown3 hgr hat hBc hXc hT5 hM5 hrow hel hX9 hnews
            refine wpAnyH_done (by kernel_rfl) ?_ _
            go_wp2_with fail
            go_meet
            case rel => exact ⟨HS2, HK2, x0, x1, x2, x3, x4, x5, x6⟩
          · have wc0 := (blk_cell hB3 0).trans rfl
            have rc0 := blk_frozen hB3 0
            go_simp
            refine hK.out _ _ (by exact box7 (blk_far hX3 (by (try dsimp only); exact hxg2) _)) (fun hHeld => ?_)
            clear hK K
            try simp only [Act.put, List.setIfInBounds_toArray, List.set_cons_zero, List.set_cons_succ]
            have hown4 := own_move (w1 := w3.setCell ⟨g, 0, none⟩ (.slice (some ⟨g', 0, none⟩) (vs.length + 1) cap)) hown3 (fun k hk => Below.heap_setCell _ _ _ k (own_slice_ne hk hgg))
            clear p0 p1 p2 p3 p4 p5 p6 q0 q1 q2 q3 q4 q5 q6 wc0 rc0
            obtain ⟨p0, p1, p2, p3, p4, p5, p6, q0, q1, q2, q3, q4, q5, q6⟩ := own_cells7 hil hown4
            refine wpAnyH_ready (rs := [10]) (by kernel_rfl) (by simp) ?_
            refine AllReadyH.cons (o := { dst := none, op := Op.store 27 (Operand.tmp 29) (Operand.tmp 25), type := 0, pos := "terms.go:113", after := #[{ on := 9, ground := Ground.data }, { on := 5, ground := Ground.data }, { on := 8, ground := Ground.chain }, { on := 0, ground := Ground.phase }, { on := 1, ground := Ground.phase }, { on := 2, ground := Ground.phase }, { on := 3, ground := Ground.phase }, { on := 4, ground := Ground.phase }, { on := 5, ground := Ground.phase }, { on := 6, ground := Ground.phase }, { on := 7, ground := Ground.phase }, { on := 8, ground := Ground.phase }, { on := 13, ground := Ground.gcOnly Departure.appendInPlace }], guard := none }) rfl (fun K hK => ?_) AllReadyH.nil
            go_simp
            refine hK.out _ _ (by exact box7 (blk_far (blk_far (blk_far (blk_far (blk_far (blk_far (blk_far ((blk_far hX3 (by (try dsimp only); exact hxg2) _)) (by (try dsimp only); exact hxg) _) (by (try dsimp only); exact hxg) _) (by (try dsimp only); exact hxg) _) (by (try dsimp only); exact hxg) _) (by (try dsimp only); exact hxg) _) (by (try dsimp only); exact hxg) _) (by (try dsimp only); exact hxg) _)) (fun hHeld => ?_)
            clear hK K
            try simp only [Act.put, List.setIfInBounds_toArray, List.set_cons_zero, List.set_cons_succ]
            clear hown4
            have hW5 := Nt_wb (ut := .slice At x.f2.f2.length ct) (us := .slice Bt x.f4.length dt) (x := x) hil hgb (blk_lt hBc) hBc hvb (by have := hbc.size; have := HBS1.out; omega) hown3 hgr hat
            have hP := Nt_push (ts := ts) hgb HBS1.out HBW1.out hrow hel HU1.out hbc (hT5.mono (fun k hk => Nat.le_trans HLT.out hk)) (hM5.mono (fun k hk => Nat.le_trans HLT.out hk)) hat hW5
            have HS2 := Aside0.mk hP.1
            have HK2 := Aside0.mk (HK1.out.trans hP.2)
            have hX9 := hP.2.blk HBX1.out (by omega) (hnr _ hbW1)
            obtain ⟨x0, x1, x2, x3, x4, x5, x6⟩ := box7 hX9
            clear hW5 hP hB3 hX3 p0 p1 p2 p3 p4 p5 p6 q0 q1 q2 q3 q4 q5 q6 hown3 hgr hat hBc hXc hT5 hM5 hrow hel hX9 hnews
            refine wpAnyH_done (by kernel_rfl) ?_ _
            go_wp2_with fail
            go_meet
            case rel => exact ⟨HS2, HK2, x0, x1, x2, x3, x4, x5, x6⟩
  · rw [hfr, if_neg h1]
    have k1 : (x.f0 == 1) = false := beq_eq_false_iff_ne.mpr h1
    have HS2 := Aside0.mk hS0
    have HK2 := Aside0.mk hK0
    clear hS hS0 hX hX0 hXW hn1 hfr hV hU hnr hk hl htv hCv hCu hft hcB h1 hf
    go_enter Try.func101, Try.ntmps101
    go_wp2_with (go_at_call 53; (with_reducible refine (evr _ HK2.out).mono ?_); rintro e W4 ⟨v4, rfl, hL, hb4⟩; obtain ⟨RL, rl, hv4, hll, hCL⟩ := Kd.R_reads hL; subst hv4)
    have HS3 := HS2.out
    have hgW := Nat.lt_of_lt_of_le hgw HK2.out.size
    have HS4 := HS3.later hb4
    have HK4 := HK2.out.trans (NtK.of_below hgW hb4)
    have HLR := Aside0.mk (fun wr (hk : NtK g W4 wr) => StrR.kept hgW HS3 hb4 hL hk)
    clear hCL HS3 hL HS2 HK2
    generalize hLq : varsL (preT x.f2) [] = L at *
    have HLQ := Lib.hid hLq
    clear hLq
    go_loopg [7, 48] L.length (fun gg _ v48 wr => ∃ kk : Nat, kk ≤ L.length ∧ gg + kk = L.length ∧ v48 = .int .i64 (kk : Int) ∧ Aside0 (NtS base g (vs) (addNs (L.take kk) ts) wr) ∧ Aside0 (NtK g W4 wr))
    case atStart => exact ⟨0, by omega, by omega, rfl, ⟨HS4⟩, ⟨⟨Below.refl _ _, fun _ _ _ _ => rfl, fun _ h => .inl h⟩⟩⟩
    case round =>
      obtain ⟨kk, hk1, hk2, rfl, HSr, HKr⟩ := hrel
      clear HS4
      obtain ⟨v, u, hBr, hVr, hUr⟩ := id HSr.out
      obtain ⟨RA', rc', rfl, _, _⟩ := hVr.reads
      obtain ⟨RB', rd', rfl, hul', hCu'⟩ := Kd.R_reads hUr
      have w0 := (blk_cell hBr 0).trans rfl
      have w1 := (blk_cell hBr 1).trans rfl
      have hgl := hBr.lt
      by_cases hkk : kk < L.length
      · have q0 : decide (kk < L.length) = true := decide_eq_true hkk
        obtain ⟨RL2, rl2, he2, _, hCL⟩ := Kd.R_reads (HLR.out wr HKr.out)
        injection he2 with he2 _ he3
        subst he2 he3
        obtain ⟨ad, e1, hx⟩ := Kd.at_string hCL (kk : Int) (by omega) (by omega)
        cases e1
        rw [rdOf_get L kk hkk, Int.toNat_natCast] at hx
        have hnx := addNs_take L ts kk hkk
        have hcl := addNs_len (L.take kk) ts
        rw [List.length_take] at hcl
        have HNX := Lib.hid hnx
        have hcf := contains_f (addNs (L.take kk) ts) L[kk] (by have := HTL.out; have := HLL.out; omega)
        have HCL := Lib.hid hcl
        clear hnx hcl hCL
        generalize L[kk] = s at *
        generalize addNs (L.take kk) ts = cur at *
        have hct := fun W (hW : Below wr.heap.size wr W) => slices_Contains_string_string.calls _ RB' rd' cur s _ W (Kd.C_below hCu' hW) hul' hcf
        clear hCu' hcf
        have hbr := Below.refl wr.heap.size wr
        cases hin : inS cur s with
        | true =>
          rw [hin] at hct
          have hadd : addN cur s = cur := by unfold addN; rw [if_pos hin]
          have HADD := Lib.hid hadd
          clear hadd hin
          go_wp2_with (go_at_call 117; (with_reducible refine (hct _ hbr).mono ?_); rintro e W5 ⟨rfl, hd⟩; have hb5 := hd.below)
          go_roundg (L.length - kk - 1)
          case measure => omega
          case rel => exact ⟨kk + 1, by omega, by omega, by simp <;> exact w64s (by have := HTL.out; have := HLL.out; omega), ⟨by rw [HNX.out, HADD.out]; exact HSr.out.later hb5⟩, ⟨HKr.out.trans (NtK.of_below hgl hb5)⟩⟩
        | false =>
          rw [hin] at hct
          have hadd : addN cur s = cur ++ [s] := by unfold addN; rw [if_neg (by rw [hin]; simp)]
          have HADD := Lib.hid hadd
          clear hadd hin
          go_wp2_with (first | ((with_reducible refine gate_dst (N := 66) rfl ?_); refine lock4_ ?_) | (go_at_call 117; (with_reducible refine (hct _ hbr).mono ?_); rintro e W5 ⟨rfl, hd⟩; have hb5 := hd.below; have hB5 := blk_below hBr hb5; have w0 := (blk_cell hB5 0).trans rfl; have w1 := (blk_cell hB5 1).trans rfl))
          unfold Lock4
          have hS5 := HSr.out.later hb5
          have hbs5 : base ≤ W5.heap.size := Nat.le_trans hbs (Nat.le_trans (HK4.trans HKr.out).size hb5.size)
          refine Kd.R_append Kd.string (w0 := W5) base (by rfl) (.tmp 63) (.tmp 65) 43 9 (.string ⟨#[]⟩) 16 (by rfl) Try.underlying43 info_str (by rfl) (by decide) (by decide) (.slice RB' cur.length rd') cur s [.string s] (fun _ => True) (fun _ => False) (by rfl) (by rfl) rfl (fun _ h => h.elim) (fun _ _ => trivial) (Kd.R_below hUr hb5) (Below.refl _ _) hbs5 (by have := HTL.out; have := HCL.out; have := HLL.out; omega) ?_
          intro v2 W6 hR6 hB6 hg6 hat6
          obtain ⟨RC, re, hv2, _, _⟩ := Kd.R_reads hR6
          rw [show (cur ++ [s]).length = cur.length + 1 by simp] at hv2
          subst hv2
          have hfin := Nt_str hgb hB5 (hVr.later hb5) (Kd.R_below hUr hb5) hR6 hB6 hg6 hat6
          have HFIN := Aside0.mk hfin
          have hB6' : W6.heap[g]? = some (.cells #[.slice RA' (vs).length rc', .slice RB' cur.length rd'] 126 (0, 0)) := (hg6.block g (blk_lt hB5) (fun e => by obtain ⟨_, _, ho, _⟩ := Kd.R_below hUr hb5; have := own_base ho g e.symm; omega)).trans hB5
          clear hfin hR6 hB6 hg6 hat6 w0 w1
          have w0 := (blk_cell hB6' 0).trans rfl
          have w1 := (blk_cell hB6' 1).trans rfl
          have r1 := blk_frozen hB6' 1
          clear hct
          go_wp2_with fail
          go_roundg (L.length - kk - 1)
          case measure => omega
          case rel => exact ⟨kk + 1, by omega, by omega, by simp <;> exact w64s (by have := HTL.out; have := HLL.out; omega), ⟨by rw [HNX.out, HADD.out]; exact HFIN.out.1⟩, ⟨(HKr.out.trans (NtK.of_below hgl hb5)).trans HFIN.out.2⟩⟩
      · have q0 : decide (kk < L.length) = false := decide_eq_false hkk
        obtain rfl : kk = L.length := by omega
        have HSE := HSr.out
        rw [List.take_length] at HSE
        have HSEA := Aside0.mk HSE
        clear HSE hkk
        go_wp2_with fail
        refine bodyPost_end (v := .tuple #[]) (by simp [results, Try.results101, go_sem]) rfl ?_
        exact ⟨rfl, by rw [HLQ.out]; exact HSEA.out, HK4.trans HKr.out⟩
end Go.Proofs.Ytecplbgdalchdaa.Q
/- Proved here: the contracts of terms.each, Free and TypeVars. Conditions: those that each theorem names. -/
namespace Go.Proofs.Ytecplbgdalchdaa.Q
open Go.RowKit Go.Shelf Go.Proofs.YtecplbgdalchdaaW.PrintWords Go.Proofs.YtecplbgdalchdaaW.PrintMore
set_option linter.unusedVariables false
set_option linter.unusedSimpArgs false
attribute [local go_sem] Oper.semAt_some


abbrev NodeOk (x : S27) : Prop := (x.f0 = 3 ∨ x.f0 = 4) ∨ ((x.f0 = 1 ∨ x.f0 = 2 ∨ x.f0 = 5) ∧ chkB x.f2 = true)
theorem formM_nodes (t : S27) : ∀ (l : List S24) (u : S24), formM t l = some u → allM NodeOk t := by
  induction t using M_ind with
  | _ t ih =>
  intro l u h
  refine allM_mk ?_ (fun x hx => ?_)
  · rcases formM_inv h with ⟨h0, _, h2, _⟩ | ⟨h0, _⟩ | ⟨h0, _⟩ | ⟨h0, _, h2, _⟩
    · exact .inr ⟨by omega, h2⟩
    · exact .inl (.inl h0)
    · exact .inl (.inr h0)
    · exact .inr ⟨by omega, h2⟩
  · obtain ⟨p, hp⟩ := formM_kid h hx
    exact ih x hx _ _ hp
theorem frL_take (l : List S27) (j : Nat) (h : j < l.length) (out : List S27) : frL (preML (l.take (j + 1))) out = frL (preM l[j]) (frL (preML (l.take j)) out) := by rw [preML_take l j h, frL_app]
theorem tvL_take (l : List S27) (j : Nat) (h : j < l.length) (out : List ByteArray) : tvL (preML (l.take (j + 1))) out = tvL (preM l[j]) (tvL (preML (l.take j)) out) := by rw [preML_take l j h, tvL_app]
theorem tvL_len : ∀ (l : List S27) (out : List ByteArray), (∀ x, x ∈ l → szT x.f2 ≤ 1000000) → (tvL l out).length ≤ out.length + l.length * 1000000
  | [], out, _ => by simp [tvL]
  | a :: l, out, h => by
    have h1 := tvL_len l (tvStep out a) (fun x hx => h x (by simp [hx]))
    have h2 := tvStep_len out a
    have h3 := h a (by simp)
    simp only [tvL, List.foldl_cons, List.length_cons] at h1 ⊢
    omega
theorem preML_fit {t : S27} (hf : fitM t) (j : Nat) : ∀ x, x ∈ preML (t.f4.take j) → szT x.f2 ≤ 1000000 := by
  intro x hx
  obtain ⟨y, hy, hxy⟩ := preML_mem.1 hx
  exact (allM_pre y (allM_sub hf.1 (List.mem_of_mem_take hy)) x hxy).2.2.1
theorem szML_takeb (l : List S27) (j : Nat) (h : j < l.length) : szML (l.take j) + szM l[j] ≤ szML l := szML_le l j h
set_option maxHeartbeats 8000000 in
set_option maxRecDepth 100000 in
theorem each_calls (n : Nat) : ∀ x : S27, szM x ≤ n → fitM x → allM NodeOk x → ∀ (base g : Nat) (vs : List S27) (ts : List ByteArray) (A : Option Addr) (c : Nat) (B : Option Addr) (d : Nat) (w : World), g < base → base ≤ w.heap.size → NtS base g vs ts w → RdF w (fun k => k < g) x A c B d → vs.length + szM x ≤ 1000000 → ts.length + szM x * 1000000 ≤ 1000000000000 →
    Calls Try.prog 102 #[.agg #[.int .u8 x.f0, .string x.f1, .bool x.f2.f0, .string x.f2.f1, .slice A x.f2.f2.length c, .int .i64 x.f3, .slice B x.f4.length d], .func (.func 101) #[.pointer (some ⟨g, 0, none⟩)] #[]] w fun e w' => e = .returned (.tuple #[]) ∧ NtS base g (frL (preM x) vs) (tvL (preM x) ts) w' ∧ NtK g w w' := by
  induction n with
  | zero => intro x hn; have := szM_pos x; omega
  | succ n ih =>
  intro x hn hf ho base g vs ts A c B d w hgb hbs hS hX hvl htl
  have hb0 := below_one (w := w) (.cells #[.int .u8 x.f0, .string x.f1, .bool x.f2.f0, .string x.f2.f1, .slice A x.f2.f2.length c, .int .i64 x.f3, .slice B x.f4.length d] 27)
  have BX := blk_new w (.cells #[.int .u8 x.f0, .string x.f1, .bool x.f2.f0, .string x.f2.f1, .slice A x.f2.f2.length c, .int .i64 x.f3, .slice B x.f4.length d] 27)
  have hsz := szM_eq x
  have hlen := szML_len x.f4
  have htx := (allM_top hf.1).2.2.1
  have hgw : g < w.heap.size := by omega
  have hnr := hS.not_row hb0 (Nat.le_refl _)
  have hno := note_calls x hf (allM_top ho) base g vs ts A c B d _ hgb (Nat.le_trans hbs hb0.size) (hS.later hb0) (hX.later hb0) (by omega) (by omega)
  have eg : ∀ args w, (callFunc 101 args).run Try.prog w = .ok (.enter 101 args) w := enters_of Try.func101 (by kernel_rfl) rfl
  have hfr : frL (preM x) vs = frL (preML x.f4) (frStep vs x) := by rw [preM_eq]; rfl
  have htv : tvL (preM x) ts = tvL (preML x.f4) (tvStep ts x) := by rw [preM_eq]; rfl
  rw [hfr, htv]
  have hvl1 : (frStep vs x).length ≤ vs.length + 1 := by unfold frStep; split <;> (try split) <;> simp
  have htl1 := tvStep_len ts x
  generalize frStep vs x = vs1 at *
  generalize tvStep ts x = ts1 at *
  have hK0 := NtK.of_below hgw hb0
  have hcall : ∀ kk : Nat, ∀ hk : kk < x.f4.length, ∀ (A2 : Option Addr) (c2 : Nat) (A3 : Option Addr) (c3 : Nat) (W : World), base ≤ W.heap.size → NtS base g (frL (preML (x.f4.take kk)) vs1) (tvL (preML (x.f4.take kk)) ts1) W → RdF W (fun k => k < g) x.f4[kk] A2 c2 A3 c3 →
      Calls Try.prog 102 #[.agg #[.int .u8 x.f4[kk].f0, .string x.f4[kk].f1, .bool x.f4[kk].f2.f0, .string x.f4[kk].f2.f1, .slice A2 x.f4[kk].f2.f2.length c2, .int .i64 x.f4[kk].f3, .slice A3 x.f4[kk].f4.length c3], .func (.func 101) #[.pointer (some ⟨g, 0, none⟩)] #[]] W fun e w' => e = .returned (.tuple #[]) ∧ NtS base g (frL (preML (x.f4.take (kk + 1))) vs1) (tvL (preML (x.f4.take (kk + 1))) ts1) w' ∧ NtK g W w' := by
    intro kk hk A2 c2 A3 c3 W hW hSW hRW
    have hm := List.getElem_mem hk
    have h1 := szML_takeb x.f4 kk hk
    have h2 := frL_len (preML (x.f4.take kk)) vs1
    have h3 := tvL_len (preML (x.f4.take kk)) ts1 (preML_fit hf kk)
    rw [preML_length] at h2 h3
    rw [frL_take _ _ hk, tvL_take _ _ hk]
    exact ih _ (by have := szM_sub hm; omega) (fitM_sub hf hm) (allM_sub ho hm) base g _ _ A2 c2 A3 c3 W hgb hW hSW hRW (by omega) (by omega)
  have HX := Aside0.mk hX
  have HF := Aside0.mk hf
  have HCALL := Aside0.mk hcall
  have HHN := Lib.hid hvl
  obtain ⟨x0, x1, x2, x3, x4, x5, x6⟩ := box7 BX
  clear ih hn hf ho hS hX htl hfr htv hvl1 htl1 htx hcall hb0 hvl
  go_enter Try.func102, Try.ntmps102
  go_wp2_with (go_at_fn 101; (with_reducible refine hno.mono ?_); rintro e W1 ⟨rfl, hS1, hK1⟩; have hX1 := hK1.blk BX (by omega) hnr; obtain ⟨x0, x1, x2, x3, x4, x5, x6⟩ := box7 hX1)
  have HK1 := Aside0.mk (hK0.trans hK1)
  have HS1 := Aside0.mk hS1
  clear hS1 hK1 hX1 x0 x1 x2 x3 x4 x5 x6 hno
  go_loopg [5, 12] x.f4.length (fun gg _ v12 wr => ∃ kk : Nat, kk ≤ x.f4.length ∧ gg + kk = x.f4.length ∧ v12 = .int .i64 (kk : Int) ∧ Aside0 (NtS base g (frL (preML (x.f4.take kk)) vs1) (tvL (preML (x.f4.take kk)) ts1) wr) ∧ Aside0 (NtK g w wr))
  case atStart => exact ⟨0, by omega, by omega, rfl, ⟨HS1.out⟩, ⟨HK1.out⟩⟩
  case round =>
    obtain ⟨kk, hk1, hk2, rfl, HSr, HKr⟩ := hrel
    clear HS1 HK1
    by_cases hkk : kk < x.f4.length
    · have q0 : decide (kk < x.f4.length) = true := decide_eq_true hkk
      have hXr := HX.out.step (fun k hk _ => HKr.out.below.block k hk)
      obtain ⟨ad, A2, c2, A3, c3, e1, ⟨hx0, hx1, hx2, hx3, hx4, hx5, hx6⟩, hE⟩ := tm_elem (Kd.V_mk (e := 27) (base := 0) hXr.2.2 hXr.2.1) kk hkk
      cases e1
      rw [rdM x.f4 kk hkk] at hx0 hx1 hx2 hx3 hx4 hx5 hx6 hE
      have hcall := fun W => HCALL.out kk hkk A2 c2 A3 c3 W
      have hgl := Nat.lt_of_lt_of_le hgw HKr.out.size
      have hbsr : base ≤ wr.heap.size := Nat.le_trans hbs HKr.out.size
      generalize x.f4[kk] = y at *
      have hcl := hcall (wr.alloc (.cells #[.int .u8 y.f0, .string y.f1, .bool y.f2.f0, .string y.f2.f1, .slice A2 y.f2.f2.length c2, .int .i64 y.f3, .slice A3 y.f4.length c3] 27)) (Nat.le_trans hbsr (below_one _).size) (HSr.out.later (below_one _)) (hE.later (below_one _))
      have hKa := NtK.of_below hgl (below_one (w := wr) (.cells #[.int .u8 y.f0, .string y.f1, .bool y.f2.f0, .string y.f2.f1, .slice A2 y.f2.f2.length c2, .int .i64 y.f3, .slice A3 y.f4.length c3] 27))
      clear hcall hXr hE
      go_wp2_with (go_at_call 102; (with_reducible refine hcl.mono ?_); rintro e W2 ⟨rfl, hS2, hK2⟩)
      go_roundg (x.f4.length - kk - 1)
      case measure => omega
      case rel => exact ⟨kk + 1, by omega, by omega, by simp <;> exact w64s (by have := HHN.out; omega), ⟨hS2⟩, ⟨(HKr.out.trans hKa).trans hK2⟩⟩
    · have q0 : decide (kk < x.f4.length) = false := decide_eq_false hkk
      obtain rfl : kk = x.f4.length := by omega
      have HSE := HSr.out
      rw [List.take_length] at HSE
      have HSEA := Aside0.mk HSE
      clear HSE hkk
      go_wp2_with fail
      refine bodyPost_end (v := .tuple #[]) (by simp [results, Try.results102, go_sem]) rfl ?_
      exact ⟨rfl, HSEA.out, HKr.out⟩
/-- Free, TypeVars. -/
def freF (t : S27) : List S27 × Int := if chkM t = 0 then (frM t, 0) else ([], chkM t)
def FreePost (w : World) (p : List S27 × Int) (e : Ending) (w' : World) : Prop := ∃ v, e = .returned (.tuple #[v, .int .i64 p.2]) ∧ WTM w' (fun k => w.heap.size ≤ k) v p.1 ∧ Below w.heap.size w w'
set_option maxHeartbeats 4000000 in
set_option maxRecDepth 100000 in
theorem free_all_calls (t : S27) (hf : fitM t) (A : Option Addr) (c : Nat) (B : Option Addr) (d : Nat) (w : World) (hX : RdM w t A c B d) : Calls Try.prog 22 #[.agg #[.int .u8 t.f0, .string t.f1, .bool t.f2.f0, .string t.f2.f1, .slice A t.f2.f2.length c, .int .i64 t.f3, .slice B t.f4.length d]] w (FreePost w (freF t)) := by
  have hb0 := below_one (w := w) (.cells #[.int .u8 t.f0, .string t.f1, .bool t.f2.f0, .string t.f2.f1, .slice A t.f2.f2.length c, .int .i64 t.f3, .slice B t.f4.length d] 27)
  have BX := blk_new w (.cells #[.int .u8 t.f0, .string t.f1, .bool t.f2.f0, .string t.f2.f1, .slice A t.f2.f2.length c, .int .i64 t.f3, .slice B t.f4.length d] 27)
  obtain ⟨x0, x1, x2, x3, x4, x5, x6⟩ := box7 BX
  have ec := fun W (hw : Below w.heap.size w W) => chkM_calls t hf A c B d W (hX.later hw)
  have hR : freF t = if chkM t = 0 then (frM t, 0) else ([], chkM t) := rfl
  have hXF : RdF w (fun k => k < w.heap.size) t A c B d := ⟨⟨Kd.C_F k24_heap hX.1.1, hX.1.2⟩, Kd.C_F k27_heap hX.2.1, hX.2.2⟩
  unfold FreePost
  by_cases hq : chkM t ≠ 0
  · rw [hR, if_neg hq]
    have p1 : (chkM t != 0) = true := bne_iff_ne.mpr hq
    clear hR hXF hX hq
    generalize chkM t = er at *
    go_enter Try.func22, Try.ntmps22
    go_wp2_with (go_at_call 29; (with_reducible refine (ec _ hb0).mono ?_); rintro e w1 ⟨rfl, hb1⟩)
    refine bodyPost_ret (v := .tuple #[.slice none 0 0, .int .i64 er]) (by simp [results, Try.results22, go_sem]) rfl ?_
    exact ⟨_, rfl, .nil _ _, below_step hb0 hb1⟩
  replace hq : chkM t = 0 := Decidable.not_not.mp hq
  have hs := (chkM_ok hq).1
  have hno := formM_nodes t [] _ (chkM_ok hq).2.2
  rw [hR, if_pos hq]
  rw [hq] at ec
  have ee : ∀ (g : Nat) (W : World), w.heap.size ≤ g → g < W.heap.size → W.heap[g]? = some (.cells #[.slice none 0 0, .slice none 0 0] 126 (0, 0)) → Below w.heap.size w W → Calls Try.prog 102 #[.agg #[.int .u8 t.f0, .string t.f1, .bool t.f2.f0, .string t.f2.f1, .slice A t.f2.f2.length c, .int .i64 t.f3, .slice B t.f4.length d], .func (.func 101) #[.pointer (some ⟨g, 0, none⟩)] #[]] W fun e w' => e = .returned (.tuple #[]) ∧ NtS (g + 1) g (frM t) (tvM t) w' ∧ NtK g W w' := by
    intro g W h1 h2 h3 hb
    exact each_calls _ t (Nat.le_refl _) hf hno (g + 1) g [] [] A c B d W (by omega) h2 (NtS.start h3) ((hXF.later hb).mono (fun k hk => by omega)) (by simp; omega) (by simp; omega)
  clear hR hXF hX hq hs hno
  go_enter Try.func22, Try.ntmps22
  go_wp2_with (first
    | (go_at_call 102; (with_reducible refine (ee _ _ hb1'.size (blk_lt BW) BW hbw).mono ?_); rintro e w2 ⟨rfl, hS2, hK2⟩; obtain ⟨v, u, hB2, hV2, hU2⟩ := hS2; obtain ⟨RA, rc, hv, _, _⟩ := hV2.reads; subst hv; obtain ⟨RB, rd, hu, _, _⟩ := Kd.R_reads hU2; subst hu; have w0 := (blk_cell hB2 0).trans rfl; have w1' := (blk_cell hB2 1).trans rfl)
    | (go_at_call 29; (with_reducible refine (ec _ hb0).mono ?_); rintro e w1 ⟨rfl, hb1⟩; have hb1' := below_step hb0 hb1; have BX1 := blk_below BX hb1; obtain ⟨x0, x1, x2, x3, x4, x5, x6⟩ := box7 (blk_alloc BX1 (.cells #[.slice none 0 0, .slice none 0 0] 126)); have hbw := below_step hb1' (below_one (w := w1) (.cells #[.slice none 0 0, .slice none 0 0] 126)); have BW := blk_new w1 (.cells #[.slice none 0 0, .slice none 0 0] 126)))
  refine bodyPost_ret (v := .tuple #[.slice RA (frM t).length rc, .int .i64 0]) (by simp [results, Try.results22, go_sem]) rfl ?_
  have hfin := hbw.trans (hK2.below.mono hb1'.size)
  exact ⟨_, rfl, hV2.tree.mono (fun k hk => by have := hb1'.size; omega), hfin⟩
end Go.Proofs.Ytecplbgdalchdaa.Q
