/- Proved here: the contract of types.Compare. Conditions: those that each theorem names. -/
import Derived.Test.YtgnklkmifcmlhaaHKit
import Derived.Test.YtgnklkmifcmlhaaHStr
import Derived.Test.YtgnklkmifcmlhaaQ29
import Derived.Test.YtgnklkmifcmlhaaQ31
import Derived.Test.YtgnklkmifcmlhaaQ32
import Derived.Deep.RegionHeld3
namespace Go.Proofs.Ytgnklkmifcmlhaa.Q
open Go.RowKit Go.Proofs.YtgnklkmifcmlhaaW.PrintWords Go.Proofs.YtgnklkmifcmlhaaW.PrintMore
set_option linter.unusedVariables false
set_option linter.unusedSimpArgs false

/-! ### The order of types -/
def cmpI (a b : Int) : Int := if a < b then -1 else if b < a then 1 else 0
def or3 (a b c : Int) : Int := if a ≠ 0 then a else if b ≠ 0 then b else c
def rankT (b : Bool) : Int := if b = true then 0 else 1
def headC (a b : S25) : Int := or3 (cmpI (rankT a.f0) (rankT b.f0)) (Lib.compareBytes a.f1.data.toList b.f1.data.toList) (cmpI (a.f2.length : Int) (b.f2.length : Int))
mutual
def cmpT : S25 → S25 → Int
  | ⟨a0, a1, a2⟩, ⟨b0, b1, b2⟩ => if headC ⟨a0, a1, a2⟩ ⟨b0, b1, b2⟩ ≠ 0 then headC ⟨a0, a1, a2⟩ ⟨b0, b1, b2⟩ else cmpL a2 b2
def cmpL : List S25 → List S25 → Int
  | [], [] => 0
  | [], _ :: _ => -1
  | _ :: _, [] => 1
  | a :: l, b :: m => if cmpT a b ≠ 0 then cmpT a b else cmpL l m
end
mutual
def szT : S25 → Nat
  | ⟨_, _, l⟩ => szL l + 1
def szL : List S25 → Nat
  | [] => 0
  | a :: l => szT a + szL l
end
theorem szL_mem : ∀ (l : List S25) (x : S25), x ∈ l → szT x ≤ szL l
  | a :: l, x, h => by
    simp only [szL]
    rcases List.mem_cons.1 h with rfl | h
    · omega
    · have := szL_mem l x h; omega
theorem szT_pos (x : S25) : 0 < szT x := by cases x; simp [szT]
theorem cmpT_eq (a b : S25) : cmpT a b = if headC a b ≠ 0 then headC a b else cmpL a.f2 b.f2 := by cases a; cases b; simp only [cmpT]

theorem cmp_Compare_f (a b : Int) : cmp_Compare_int.f a b = some (cmpI a b) := by
  simp only [cmp_Compare_int.f, cmp_isNaN_int.f, cmpI]
  split <;> simp_all <;> split <;> simp_all
theorem or_f (a b c : Int) : cmp_Or_int.f 5 [a, b, c] = some (or3 a b c) := by
  have w0 : wrap64 1 = 1 := by unfold wrap64; omega
  have w1 : wrap64 2 = 2 := by unfold wrap64; omega
  have w2 : wrap64 3 = 3 := by unfold wrap64; omega
  simp only [cmp_Or_int.f, cmp_Or_int.l0, or3, List.length_cons, List.length_nil, rd]
  by_cases ha : a = 0 <;> by_cases hb : b = 0 <;> by_cases hc : c = 0 <;> simp [ha, hb, hc, w0, w1, w2, cmp_Or_int.l0, rd]
theorem rank_f (x : S25) : types_rank.f x.f0 x.f1 x.f2 = some (rankT x.f0) := by
  simp only [types_rank.f, rankT]; split <;> rfl

/-! ### CompareFunc, Compare -/
def CmpOk (x y : S25) : Prop := ∀ (A : Option Addr) (c : Nat) (B : Option Addr) (d : Nat) (w : World), k25.C w A x.f2.length x.f2 → x.f2.length ≤ c → k25.C w B y.f2.length y.f2 → y.f2.length ≤ d →
    Calls Try.prog 33 #[.agg #[.bool x.f0, .string x.f1, .slice A x.f2.length c], .agg #[.bool y.f0, .string y.f1, .slice B y.f2.length d]] w fun e w' => e = .returned (.int .i64 (cmpT x y)) ∧ Below w.heap.size w w'

set_option maxHeartbeats 2000000 in
set_option maxRecDepth 100000 in
theorem compareFunc_calls (l m : List S25) (hok : ∀ x y, x ∈ l → CmpOk x y) (A : Option Addr) (c : Nat) (B : Option Addr) (d : Nat) (w : World) (hA : k25.C w A l.length l) (hB : k25.C w B m.length m) :
    Calls Try.prog 76 #[.slice A l.length c, .slice B m.length d, .func (.func 33) #[] #[]] w fun e w' => e = .returned (.int .i64 (cmpL l m)) ∧ Below w.heap.size w w' := by
  have hm : l.length ≤ 9223372036854775807 := hA.2.1
  have hm2 : m.length ≤ 9223372036854775807 := hB.2.1
  have HA := Aside0.mk hA
  have HB := Aside0.mk hB
  have HO := Aside0.mk hok
  clear hA hB hok
  go_enter Try.func76, Try.ntmps76
  go_wp2
  go_loopg [7, 8, 9, 10, 13] l.length (fun gg _ _ _ _ s13 wr => ∃ kk : Nat, kk ≤ l.length ∧ l.length - kk ≤ gg ∧ s13 = .int .i64 kk ∧ kk ≤ m.length ∧ Aside0 (Below w.heap.size w wr) ∧ Aside0 (cmpL l m = cmpL (l.drop kk) (m.drop kk)))
  case atStart => exact ⟨0, Nat.zero_le _, by omega, rfl, Nat.zero_le _, ⟨Below.refl _ w⟩, ⟨rfl⟩⟩
  case round =>
    obtain ⟨kk, hkk, hg, rfl, hkm, HW, HC⟩ := hrel
    by_cases hlt : kk < l.length
    · have hltz : (kk : Int) < (l.length : Int) := by omega
      obtain ⟨ad, A2, c2, e1, hx0, hx1, hx2, hl2, hi2⟩ := at_T25 (Kd.C_below HA.out HW.out) (kk : Int) (by omega) hltz
      cases e1
      simp only [Int.toNat_natCast] at hx0 hx1 hx2
      have hmem : l.getD kk z25 ∈ l := getD_mem l z25 kk hlt
      have hX : rd_T25 l kk = l.getD kk z25 := rfl
      by_cases hlm : kk < m.length
      · have hlmz : (kk : Int) < (m.length : Int) := by omega
        have hge : decide (m.length ≤ kk) = false := by simp; omega
        obtain ⟨bd, B2, d2, e1, hy0, hy1, hy2, hl2', hi2'⟩ := at_T25 (Kd.C_below HB.out HW.out) (kk : Int) (by omega) hlmz
        cases e1
        simp only [Int.toNat_natCast] at hy0 hy1 hy2
        have hY : rd_T25 m kk = m.getD kk z25 := rfl
        have hC := HC.out
        rw [drop_rd l z25 kk hlt, drop_rd m z25 kk hlm, ← hX, ← hY] at hC
        rw [← hX] at hmem
        have hok := HO.out _ (rd_T25 m kk) hmem
        simp only [cmpL] at hC
        clear hX hY hmem HC
        generalize rd_T25 l kk = x at *
        generalize rd_T25 m kk = y at *
        have HC := Aside0.mk hC
        have hcall := fun W (hw : Below wr.heap.size wr W) => hok A2 c2 B2 d2 W (Kd.C_below hi2 hw) hl2 (Kd.C_below hi2' hw) hl2'
        clear hC hok hl2 hi2 hl2' hi2'
        have ax := World.block_lt_of_cell? wr _ hx0
        have ay := World.block_lt_of_cell? wr _ hy0
        generalize cmpT x y = r at *
        by_cases hr : r = 0
        · have hr1 : (r != 0) = false := bne_eq_false_iff_eq.mpr hr
          have HR := Lib.hid hr
          clear hr
          go_wp2_with (go_at_call 33; refine (hcall _ (below_two _ _)).mono ?_; rintro e w' ⟨rfl, hb'⟩)
          go_roundg (l.length - (kk + 1))
          case measure => omega
          case rel =>
            have hC := HC.out
            rw [if_neg (by rw [HR.out]; simp)] at hC
            exact ⟨kk + 1, by omega, by omega, by go_num, by omega, ⟨HW.out.trans ((below_step (below_two _ _) hb').mono HW.out.size)⟩, ⟨hC⟩⟩
        · have hr1 : (r != 0) = true := bne_iff_ne.mpr hr
          go_wp2_with (go_at_call 33; refine (hcall _ (below_two _ _)).mono ?_; rintro e w' ⟨rfl, hb'⟩)
          go_ret
          have hC := HC.out
          rw [if_pos hr] at hC
          exact ⟨by rw [hC]; rfl, HW.out.trans ((below_step (below_two _ _) hb').mono HW.out.size)⟩
      · have hge : decide (m.length ≤ kk) = true := by simp; omega
        have hC := HC.out
        rw [drop_rd l z25 kk hlt, List.drop_of_length_le (show m.length ≤ kk by omega)] at hC
        simp only [cmpL] at hC
        have HC := Aside0.mk hC
        clear hC hX hmem hl2 hi2
        go_wp2
        go_ret
        exact ⟨by rw [HC.out]; rfl, HW.out.trans ((below_one _).mono HW.out.size)⟩
    · have hltz : ¬ (kk : Int) < (l.length : Int) := by omega
      have hC := HC.out
      rw [List.drop_of_length_le (show l.length ≤ kk by omega)] at hC
      by_cases hlm : l.length < m.length
      · have hd : decide (l.length < m.length) = true := by simp; omega
        rw [drop_rd m z25 kk (by omega)] at hC
        simp only [cmpL] at hC
        have HC := Aside0.mk hC
        clear hC
        go_wp2
        go_ret
        exact ⟨by rw [HC.out]; rfl, HW.out⟩
      · have hd : decide (l.length < m.length) = false := by simp; omega
        rw [List.drop_of_length_le (show m.length ≤ kk by omega)] at hC
        simp only [cmpL] at hC
        have HC := Aside0.mk hC
        clear hC
        go_wp2
        go_ret
        exact ⟨by rw [HC.out]; rfl, HW.out⟩

/-- The two boxes of Compare's arguments, and that nothing elder has turned. -/
abbrev TwoTy (w : World) (x y : S25) (A : Option Addr) (c : Nat) (B : Option Addr) (d : Nat) (W : World) : Prop :=
  W.cell? ⟨w.heap.size, 0, none⟩ = some (.bool x.f0) ∧ W.cell? ⟨w.heap.size, 1, none⟩ = some (.string x.f1) ∧ W.cell? ⟨w.heap.size, 2, none⟩ = some (.slice A x.f2.length c) ∧
    W.cell? ⟨w.heap.size + 1, 0, none⟩ = some (.bool y.f0) ∧ W.cell? ⟨w.heap.size + 1, 1, none⟩ = some (.string y.f1) ∧ W.cell? ⟨w.heap.size + 1, 2, none⟩ = some (.slice B y.f2.length d) ∧ Below w.heap.size w W
theorem TwoTy.step {w : World} {x y : S25} {A : Option Addr} {c : Nat} {B : Option Addr} {d : Nat} {W W' : World} (h : TwoTy w x y A c B d W) (hb : Below W.heap.size W W') : TwoTy w x y A c B d W' :=
  ⟨pw_cell_below hb h.1, pw_cell_below hb h.2.1, pw_cell_below hb h.2.2.1, pw_cell_below hb h.2.2.2.1, pw_cell_below hb h.2.2.2.2.1, pw_cell_below hb h.2.2.2.2.2.1, below_step h.2.2.2.2.2.2 hb⟩
theorem orCall (a b c : Int) (W : World) (g : Nat) (h : W.heap[g]? = some (.cells #[.int .i64 a, .int .i64 b, .int .i64 c] 3 (0, 0))) :
    Calls Try.prog 72 #[.slice (some ⟨g, 0, none⟩) 3 3] W fun e w' => e = .returned (.int .i64 (or3 a b c)) ∧ Drawn0 W w' := by
  refine cmp_Or_int.calls 5 (some ⟨g, 0, none⟩) 3 [a, b, c] _ W ⟨rfl, by simp, fun _ => ⟨_, rfl, fun j p hj => ?_⟩⟩ (by simp) (or_f a b c)
  have hj3 : j < 3 := by have := (List.getElem?_eq_some_iff.1 hj).1; simpa using this
  refine ⟨[.int .i64 p], rfl, rfl, fun i u hu => ?_⟩
  have hi : i = 0 := by have := (List.getElem?_eq_some_iff.1 hu).1; simp at this; exact this
  subst hi
  have hu' : u = .int .i64 p := by simpa using hu.symm
  subst hu'
  rw [show (Kd.int .i64).sz = 1 from rfl, add_plain, Nat.mul_one, Nat.add_zero, blk_cell h]
  match j, hj3, hj with
  | 0, _, hj => simp at hj; simp [hj]
  | 1, _, hj => simp at hj; simp [hj]
  | 2, _, hj => simp at hj; simp [hj]

set_option maxHeartbeats 4000000 in
set_option maxRecDepth 100000 in
theorem compare_step (x y : S25) (hok : ∀ a b, a ∈ x.f2 → CmpOk a b) : CmpOk x y := by
  intro A c B d w hA hc hB hd
  have hrx := fun W (hw : TwoTy w x y A c B d W) => (types_rank.calls x.f0 x.f1 A c x.f2 _ W (Kd.C_below hA hw.2.2.2.2.2.2) hc (rank_f x)).mono (fun _ _ h => And.intro h.1 (hw.step h.2))
  have hry := fun W (hw : TwoTy w x y A c B d W) => (types_rank.calls y.f0 y.f1 B d y.f2 _ W (Kd.C_below hB hw.2.2.2.2.2.2) hd (rank_f y)).mono (fun _ _ h => And.intro h.1 (hw.step h.2))
  have hcc := fun a b W (hw : TwoTy w x y A c B d W) => (cmp_Compare_int.calls a b _ W (cmp_Compare_f a b)).mono (fun _ _ h => And.intro h.1 (hw.step h.2.below))
  have hst := fun a b W (hw : TwoTy w x y A c B d W) => (compare_calls a b W).mono (fun _ W' h => And.intro h.1 (show TwoTy w x y A c B d W' by rw [h.2]; exact hw))
  have hor := fun a b c' W (hw : TwoTy w x y A c B d W) => (orCall a b c' (W.alloc (.cells #[.int .i64 a, .int .i64 b, .int .i64 c'] 3)) W.heap.size (blk_new W _)).mono (fun _ _ h => And.intro h.1 ((hw.step (below_one _)).step h.2.below))
  have HF := fun W (hw : Below w.heap.size w W) => compareFunc_calls x.f2 y.f2 hok A c B d W (Kd.C_below hA hw) (Kd.C_below hB hw)
  clear hA hB hok hc hd
  go_enter Try.func33, Try.ntmps33
  go_wp2_with fail
  have hbw := below_two (w := w) (.cells #[.bool x.f0, .string x.f1, .slice A x.f2.length c] 25) (.cells #[.bool y.f0, .string y.f1, .slice B y.f2.length d] 25)
  have BX := box3 (blk_mid (w := w) (.cells #[.bool x.f0, .string x.f1, .slice A x.f2.length c] 25) (.cells #[.bool y.f0, .string y.f1, .slice B y.f2.length d] 25))
  have BY := box3 (blk_top (w := w) (.cells #[.bool x.f0, .string x.f1, .slice A x.f2.length c] 25) (.cells #[.bool y.f0, .string y.f1, .slice B y.f2.length d] 25))
  obtain ⟨a0, a1, a2, _, _, _⟩ := BX
  obtain ⟨b0, b1, b2, _, _, _⟩ := BY
  generalize (w.alloc (.cells #[.bool x.f0, .string x.f1, .slice A x.f2.length c] 25)).alloc (.cells #[.bool y.f0, .string y.f1, .slice B y.f2.length d] 25) = W0 at *
  have hS0 : TwoTy w x y A c B d W0.drew := ⟨a0, a1, a2, b0, b1, b2, below_drew1 hbw⟩
  go_region_held3 (fun W => TwoTy w x y A c B d W)
    (first | exact hS0 | assumption | exact TwoTy.step (by assumption) (below_one _))
    (first | (go_at_call 74; refine (hrx _ (by assumption)).mono ?_; rintro e w1 ⟨rfl, hN⟩) | (go_at_call 74; refine (hry _ (by assumption)).mono ?_; rintro e w1 ⟨rfl, hN⟩) | (go_at_call 73; refine (hcc _ _ _ (by assumption)).mono ?_; rintro e w1 ⟨rfl, hN⟩) | (go_at_call 75; refine (hst _ _ _ (by assumption)).mono ?_; rintro e w1 ⟨rfl, hN⟩) | (go_at_call 72; refine (hor _ _ _ _ (by assumption)).mono ?_; rintro e w1 ⟨rfl, hN⟩))
  have hH : TwoTy w x y A c B d w1 := hN
  obtain ⟨e0, e1, e2, g0, g1, g2, hb⟩ := hH
  have hq : or3 (cmpI (rankT x.f0) (rankT y.f0)) (Lib.compareBytes x.f1.data.toList y.f1.data.toList) (cmpI (x.f2.length : Int) (y.f2.length : Int)) = headC x y := rfl
  rw [hq]
  have HE := Lib.hid (cmpT_eq x y)
  have HFF := HF w1 hb
  have HB := Aside0.mk hb
  clear hrx hry hcc hst hor hS0 hq hN hbw HF hb a0 a1 a2 b0 b1 b2
  generalize headC x y = r at *
  by_cases hr : r = 0
  · have hr1 : (r != 0) = false := bne_eq_false_iff_eq.mpr hr
    have HR := Lib.hid hr
    clear hr
    go_wp2_with (go_at_call 76; refine HFF.mono ?_; rintro e w2 ⟨rfl, hb2⟩)
    go_ret
    exact ⟨by rw [HE.out, if_neg (by rw [HR.out]; simp)]; rfl, below_step HB.out hb2⟩
  · have hr1 : (r != 0) = true := bne_iff_ne.mpr hr
    have HR := Lib.hid hr
    clear hr
    go_wp2
    go_ret
    exact ⟨by rw [HE.out, if_pos HR.out]; rfl, HB.out⟩

theorem compare_ok : ∀ (n : Nat) (x y : S25), szT x ≤ n → CmpOk x y
  | 0, x, _, h => by have := szT_pos x; omega
  | n + 1, x, y, h => compare_step x y (fun a b ha => compare_ok n a b (by
      have := szL_mem x.f2 a ha
      have h2 : szT x = szL x.f2 + 1 := by cases x; simp [szT]
      omega))

def types_Compare.f (a0_0 : Bool) (a0_1 : ByteArray) (l0_2 : List (S25)) (a1_0 : Bool) (a1_1 : ByteArray) (l1_2 : List (S25)) : Option Int := some (cmpT ⟨a0_0, a0_1, l0_2⟩ ⟨a1_0, a1_1, l1_2⟩)
theorem types_Compare.calls (a0_0 : Bool) (a0_1 : ByteArray) (A0_2 : Option Addr) (c0_2 : Nat) (l0_2 : List (S25)) (a1_0 : Bool) (a1_1 : ByteArray) (A1_2 : Option Addr) (c1_2 : Nat) (l1_2 : List (S25)) (r : Int) (w : World) (hr0_2 : Kd.C k25 w A0_2 l0_2.length l0_2) (hc0_2 : l0_2.length ≤ c0_2) (hr1_2 : Kd.C k25 w A1_2 l1_2.length l1_2) (hc1_2 : l1_2.length ≤ c1_2) (h : types_Compare.f a0_0 a0_1 l0_2 a1_0 a1_1 l1_2 = some r) :
    Calls Try.prog 33 #[.agg #[.bool a0_0, .string a0_1, .slice A0_2 l0_2.length c0_2], .agg #[.bool a1_0, .string a1_1, .slice A1_2 l1_2.length c1_2]] w fun e w' => e = .returned (.int .i64 r) ∧ Below w.heap.size w w' := by
  obtain rfl := Option.some.inj h
  exact compare_ok _ ⟨a0_0, a0_1, l0_2⟩ ⟨a1_0, a1_1, l1_2⟩ (Nat.le_refl _) A0_2 c0_2 A1_2 c1_2 w hr0_2 hc0_2 hr1_2 hc1_2
theorem szT_eq (t : S25) : szT t = szL t.f2 + 1 := by cases t; simp [szT]
end Go.Proofs.Ytgnklkmifcmlhaa.Q
