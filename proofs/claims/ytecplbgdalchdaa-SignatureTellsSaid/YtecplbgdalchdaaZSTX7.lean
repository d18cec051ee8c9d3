/- Proved here: parts of the proof of a given statement (HRowSignatureTells): contracts of the functions that it reaches, what they answer, and in the last text the statement itself. Conditions: those that each theorem names. -/
import Derived.Test.YtecplbgdalchdaaZSTX4
import Derived.Test.YtecplbgdalchdaaZSTX6
import Derived.Test.YtecplbgdalchdaaZSTX3
import Derived.Deep.RegionHeld3
import Derived.Maps.AppendAt
import Derived.Deep.AppendLies
/- Proved here: the contract of types.Compare. Conditions: those that each theorem names. -/
namespace Go.Proofs.Ytecplbgdalchdaa.Q
open Go.RowKit Go.Proofs.YtecplbgdalchdaaW.PrintWords Go.Proofs.YtecplbgdalchdaaW.PrintMore
set_option linter.unusedVariables false
set_option linter.unusedSimpArgs false

/-! ### The order of types -/
def cmpI (a b : Int) : Int := if a < b then -1 else if b < a then 1 else 0
def or3 (a b c : Int) : Int := if a ≠ 0 then a else if b ≠ 0 then b else c
def rankT (b : Bool) : Int := if b = true then 0 else 1
def headC (a b : S24) : Int := or3 (cmpI (rankT a.f0) (rankT b.f0)) (Lib.compareBytes a.f1.data.toList b.f1.data.toList) (cmpI (a.f2.length : Int) (b.f2.length : Int))
mutual
def cmpT : S24 → S24 → Int
  | ⟨a0, a1, a2⟩, ⟨b0, b1, b2⟩ => if headC ⟨a0, a1, a2⟩ ⟨b0, b1, b2⟩ ≠ 0 then headC ⟨a0, a1, a2⟩ ⟨b0, b1, b2⟩ else cmpL a2 b2
def cmpL : List S24 → List S24 → Int
  | [], [] => 0
  | [], _ :: _ => -1
  | _ :: _, [] => 1
  | a :: l, b :: m => if cmpT a b ≠ 0 then cmpT a b else cmpL l m
end
mutual
def szT : S24 → Nat
  | ⟨_, _, l⟩ => szL l + 1
def szL : List S24 → Nat
  | [] => 0
  | a :: l => szT a + szL l
end
theorem szL_mem : ∀ (l : List S24) (x : S24), x ∈ l → szT x ≤ szL l
  | a :: l, x, h => by
    simp only [szL]
    rcases List.mem_cons.1 h with rfl | h
    · omega
    · have := szL_mem l x h; omega
theorem szT_pos (x : S24) : 0 < szT x := by cases x; simp [szT]
theorem cmpT_eq (a b : S24) : cmpT a b = if headC a b ≠ 0 then headC a b else cmpL a.f2 b.f2 := by cases a; cases b; simp only [cmpT]

theorem cmp_Compare_f (a b : Int) : cmp_Compare_int.f a b = some (cmpI a b) := by
  simp only [cmp_Compare_int.f, cmp_isNaN_int.f, cmpI]
  split <;> simp_all <;> split <;> simp_all
theorem or_f (a b c : Int) : cmp_Or_int.f 5 [a, b, c] = some (or3 a b c) := by
  have w0 : wrap64 1 = 1 := by unfold wrap64; omega
  have w1 : wrap64 2 = 2 := by unfold wrap64; omega
  have w2 : wrap64 3 = 3 := by unfold wrap64; omega
  simp only [cmp_Or_int.f, cmp_Or_int.l0, or3, List.length_cons, List.length_nil, rd]
  by_cases ha : a = 0 <;> by_cases hb : b = 0 <;> by_cases hc : c = 0 <;> simp [ha, hb, hc, w0, w1, w2, cmp_Or_int.l0, rd]
theorem rank_f (x : S24) : types_rank.f x.f0 x.f1 x.f2 = some (rankT x.f0) := by
  simp only [types_rank.f, rankT]; split <;> rfl

/-! ### CompareFunc, Compare -/
def CmpOk (x y : S24) : Prop := ∀ (A : Option Addr) (c : Nat) (B : Option Addr) (d : Nat) (w : World), k24.C w A x.f2.length x.f2 → x.f2.length ≤ c → k24.C w B y.f2.length y.f2 → y.f2.length ≤ d →
    Calls Try.prog 94 #[.agg #[.bool x.f0, .string x.f1, .slice A x.f2.length c], .agg #[.bool y.f0, .string y.f1, .slice B y.f2.length d]] w fun e w' => e = .returned (.int .i64 (cmpT x y)) ∧ Below w.heap.size w w'

set_option maxHeartbeats 2000000 in
set_option maxRecDepth 100000 in
theorem compareFunc_calls (l m : List S24) (hok : ∀ x y, x ∈ l → CmpOk x y) (A : Option Addr) (c : Nat) (B : Option Addr) (d : Nat) (w : World) (hA : k24.C w A l.length l) (hB : k24.C w B m.length m) :
    Calls Try.prog 166 #[.slice A l.length c, .slice B m.length d, .func (.func 94) #[] #[]] w fun e w' => e = .returned (.int .i64 (cmpL l m)) ∧ Below w.heap.size w w' := by
  have hm : l.length ≤ 9223372036854775807 := hA.2.1
  have hm2 : m.length ≤ 9223372036854775807 := hB.2.1
  have HA := Aside0.mk hA
  have HB := Aside0.mk hB
  have HO := Aside0.mk hok
  clear hA hB hok
  go_enter Try.func166, Try.ntmps166
  go_wp2
  go_loopg [7, 8, 9, 10, 13] l.length (fun gg _ _ _ _ s13 wr => ∃ kk : Nat, kk ≤ l.length ∧ l.length - kk ≤ gg ∧ s13 = .int .i64 kk ∧ kk ≤ m.length ∧ Aside0 (Below w.heap.size w wr) ∧ Aside0 (cmpL l m = cmpL (l.drop kk) (m.drop kk)))
  case atStart => exact ⟨0, Nat.zero_le _, by omega, rfl, Nat.zero_le _, ⟨Below.refl _ w⟩, ⟨rfl⟩⟩
  case round =>
    obtain ⟨kk, hkk, hg, rfl, hkm, HW, HC⟩ := hrel
    by_cases hlt : kk < l.length
    · have hltz : (kk : Int) < (l.length : Int) := by omega
      obtain ⟨ad, A2, c2, e1, hx0, hx1, hx2, hl2, hi2⟩ := at_T24 (Kd.C_below HA.out HW.out) (kk : Int) (by omega) hltz
      cases e1
      simp only [Int.toNat_natCast] at hx0 hx1 hx2
      have hmem : l.getD kk z24 ∈ l := getD_mem l z24 kk hlt
      have hX : rd_T24 l kk = l.getD kk z24 := rfl
      by_cases hlm : kk < m.length
      · have hlmz : (kk : Int) < (m.length : Int) := by omega
        have hge : decide (m.length ≤ kk) = false := by simp; omega
        obtain ⟨bd, B2, d2, e1, hy0, hy1, hy2, hl2', hi2'⟩ := at_T24 (Kd.C_below HB.out HW.out) (kk : Int) (by omega) hlmz
        cases e1
        simp only [Int.toNat_natCast] at hy0 hy1 hy2
        have hY : rd_T24 m kk = m.getD kk z24 := rfl
        have hC := HC.out
        rw [drop_rd l z24 kk hlt, drop_rd m z24 kk hlm, ← hX, ← hY] at hC
        rw [← hX] at hmem
        have hok := HO.out _ (rd_T24 m kk) hmem
        simp only [cmpL] at hC
        clear hX hY hmem HC
        generalize rd_T24 l kk = x at *
        generalize rd_T24 m kk = y at *
        have HC := Aside0.mk hC
        have hcall := fun W (hw : Below wr.heap.size wr W) => hok A2 c2 B2 d2 W (Kd.C_below hi2 hw) hl2 (Kd.C_below hi2' hw) hl2'
        clear hC hok hl2 hi2 hl2' hi2'
        have ax := World.block_lt_of_cell? wr _ hx0
        have ay := World.block_lt_of_cell? wr _ hy0
        generalize cmpT x y = r at *
        by_cases hr : r = 0
        · have hr1 : (r != 0) = false := bne_eq_false_iff_eq.mpr hr
          have HR := Lib.hid hr
          clear hr
          go_wp2_with (go_at_call 94; refine (hcall _ (below_two _ _)).mono ?_; rintro e w' ⟨rfl, hb'⟩)
          go_roundg (l.length - (kk + 1))
          case measure => omega
          case rel =>
            have hC := HC.out
            rw [if_neg (by rw [HR.out]; simp)] at hC
            exact ⟨kk + 1, by omega, by omega, by go_num, by omega, ⟨HW.out.trans ((below_step (below_two _ _) hb').mono HW.out.size)⟩, ⟨hC⟩⟩
        · have hr1 : (r != 0) = true := bne_iff_ne.mpr hr
          go_wp2_with (go_at_call 94; refine (hcall _ (below_two _ _)).mono ?_; rintro e w' ⟨rfl, hb'⟩)
          go_ret
          have hC := HC.out
          rw [if_pos hr] at hC
          exact ⟨by rw [hC]; rfl, HW.out.trans ((below_step (below_two _ _) hb').mono HW.out.size)⟩
      · have hge : decide (m.length ≤ kk) = true := by simp; omega
        have hC := HC.out
        rw [drop_rd l z24 kk hlt, List.drop_of_length_le (show m.length ≤ kk by omega)] at hC
        simp only [cmpL] at hC
        have HC := Aside0.mk hC
        clear hC hX hmem hl2 hi2
        go_wp2
        go_ret
        exact ⟨by rw [HC.out]; rfl, HW.out.trans ((below_one _).mono HW.out.size)⟩
    · have hltz : ¬ (kk : Int) < (l.length : Int) := by omega
      have hC := HC.out
      rw [List.drop_of_length_le (show l.length ≤ kk by omega)] at hC
      by_cases hlm : l.length < m.length
      · have hd : decide (l.length < m.length) = true := by simp; omega
        rw [drop_rd m z24 kk (by omega)] at hC
        simp only [cmpL] at hC
        have HC := Aside0.mk hC
        clear hC
        go_wp2
        go_ret
        exact ⟨by rw [HC.out]; rfl, HW.out⟩
      · have hd : decide (l.length < m.length) = false := by simp; omega
        rw [List.drop_of_length_le (show m.length ≤ kk by omega)] at hC
        simp only [cmpL] at hC
        have HC := Aside0.mk hC
        clear hC
        go_wp2
        go_ret
        exact ⟨by rw [HC.out]; rfl, HW.out⟩

/-- The two boxes of Compare's arguments, and that nothing elder has turned. -/
abbrev TwoTy (w : World) (x y : S24) (A : Option Addr) (c : Nat) (B : Option Addr) (d : Nat) (W : World) : Prop :=
  W.cell? ⟨w.heap.size, 0, none⟩ = some (.bool x.f0) ∧ W.cell? ⟨w.heap.size, 1, none⟩ = some (.string x.f1) ∧ W.cell? ⟨w.heap.size, 2, none⟩ = some (.slice A x.f2.length c) ∧
    W.cell? ⟨w.heap.size + 1, 0, none⟩ = some (.bool y.f0) ∧ W.cell? ⟨w.heap.size + 1, 1, none⟩ = some (.string y.f1) ∧ W.cell? ⟨w.heap.size + 1, 2, none⟩ = some (.slice B y.f2.length d) ∧ Below w.heap.size w W
theorem TwoTy.step {w : World} {x y : S24} {A : Option Addr} {c : Nat} {B : Option Addr} {d : Nat} {W W' : World} (h : TwoTy w x y A c B d W) (hb : Below W.heap.size W W') : TwoTy w x y A c B d W' :=
  ⟨pw_cell_below hb h.1, pw_cell_below hb h.2.1, pw_cell_below hb h.2.2.1, pw_cell_below hb h.2.2.2.1, pw_cell_below hb h.2.2.2.2.1, pw_cell_below hb h.2.2.2.2.2.1, below_step h.2.2.2.2.2.2 hb⟩
theorem orCall (a b c : Int) (W : World) (g : Nat) (h : W.heap[g]? = some (.cells #[.int .i64 a, .int .i64 b, .int .i64 c] 3 (0, 0))) :
    Calls Try.prog 93 #[.slice (some ⟨g, 0, none⟩) 3 3] W fun e w' => e = .returned (.int .i64 (or3 a b c)) ∧ Drawn0 W w' := by
  refine cmp_Or_int.calls 5 (some ⟨g, 0, none⟩) 3 [a, b, c] _ W ⟨rfl, by simp, fun _ => ⟨_, rfl, fun j p hj => ?_⟩⟩ (by simp) (or_f a b c)
  have hj3 : j < 3 := by have := (List.getElem?_eq_some_iff.1 hj).1; simpa using this
  refine ⟨[.int .i64 p], rfl, rfl, fun i u hu => ?_⟩
  have hi : i = 0 := by have := (List.getElem?_eq_some_iff.1 hu).1; simp at this; exact this
  subst hi
  have hu' : u = .int .i64 p := by simpa using hu.symm
  subst hu'
  rw [show (Kd.int .i64).sz = 1 from rfl, add_plain, Nat.mul_one, Nat.add_zero, blk_cell h]
  match j, hj3, hj with
  | 0, _, hj => simp at hj; simp [hj]
  | 1, _, hj => simp at hj; simp [hj]
  | 2, _, hj => simp at hj; simp [hj]

set_option maxHeartbeats 4000000 in
set_option maxRecDepth 100000 in
theorem compare_step (x y : S24) (hok : ∀ a b, a ∈ x.f2 → CmpOk a b) : CmpOk x y := by
  intro A c B d w hA hc hB hd
  have hrx := fun W (hw : TwoTy w x y A c B d W) => (types_rank.calls x.f0 x.f1 A c x.f2 _ W (Kd.C_below hA hw.2.2.2.2.2.2) hc (rank_f x)).mono (fun _ _ h => And.intro h.1 (hw.step h.2))
  have hry := fun W (hw : TwoTy w x y A c B d W) => (types_rank.calls y.f0 y.f1 B d y.f2 _ W (Kd.C_below hB hw.2.2.2.2.2.2) hd (rank_f y)).mono (fun _ _ h => And.intro h.1 (hw.step h.2))
  have hcc := fun a b W (hw : TwoTy w x y A c B d W) => (cmp_Compare_int.calls a b _ W (cmp_Compare_f a b)).mono (fun _ _ h => And.intro h.1 (hw.step h.2.below))
  have hst := fun a b W (hw : TwoTy w x y A c B d W) => (compare_calls a b W).mono (fun _ W' h => And.intro h.1 (show TwoTy w x y A c B d W' by rw [h.2]; exact hw))
  have hor := fun a b c' W (hw : TwoTy w x y A c B d W) => (orCall a b c' (W.alloc (.cells #[.int .i64 a, .int .i64 b, .int .i64 c'] 3)) W.heap.size (blk_new W _)).mono (fun _ _ h => And.intro h.1 ((hw.step (below_one _)).step h.2.below))
  have HF := fun W (hw : Below w.heap.size w W) => compareFunc_calls x.f2 y.f2 hok A c B d W (Kd.C_below hA hw) (Kd.C_below hB hw)
  clear hA hB hok hc hd
  go_enter Try.func94, Try.ntmps94
  go_wp2_with fail
  have hbw := below_two (w := w) (.cells #[.bool x.f0, .string x.f1, .slice A x.f2.length c] 24) (.cells #[.bool y.f0, .string y.f1, .slice B y.f2.length d] 24)
  have BX := box3 (blk_mid (w := w) (.cells #[.bool x.f0, .string x.f1, .slice A x.f2.length c] 24) (.cells #[.bool y.f0, .string y.f1, .slice B y.f2.length d] 24))
  have BY := box3 (blk_top (w := w) (.cells #[.bool x.f0, .string x.f1, .slice A x.f2.length c] 24) (.cells #[.bool y.f0, .string y.f1, .slice B y.f2.length d] 24))
  obtain ⟨a0, a1, a2, _, _, _⟩ := BX
  obtain ⟨b0, b1, b2, _, _, _⟩ := BY
  generalize (w.alloc (.cells #[.bool x.f0, .string x.f1, .slice A x.f2.length c] 24)).alloc (.cells #[.bool y.f0, .string y.f1, .slice B y.f2.length d] 24) = W0 at *
  have hS0 : TwoTy w x y A c B d W0.drew := ⟨a0, a1, a2, b0, b1, b2, below_drew1 hbw⟩
  go_region_held3 (fun W => TwoTy w x y A c B d W)
    (first | exact hS0 | assumption | exact TwoTy.step (by assumption) (below_one _))
    (first | (go_at_call 165; refine (hrx _ (by assumption)).mono ?_; rintro e w1 ⟨rfl, hN⟩) | (go_at_call 165; refine (hry _ (by assumption)).mono ?_; rintro e w1 ⟨rfl, hN⟩) | (go_at_call 95; refine (hcc _ _ _ (by assumption)).mono ?_; rintro e w1 ⟨rfl, hN⟩) | (go_at_call 92; refine (hst _ _ _ (by assumption)).mono ?_; rintro e w1 ⟨rfl, hN⟩) | (go_at_call 93; refine (hor _ _ _ _ (by assumption)).mono ?_; rintro e w1 ⟨rfl, hN⟩))
  have hH : TwoTy w x y A c B d w1 := hN
  obtain ⟨e0, e1, e2, g0, g1, g2, hb⟩ := hH
  have hq : or3 (cmpI (rankT x.f0) (rankT y.f0)) (Lib.compareBytes x.f1.data.toList y.f1.data.toList) (cmpI (x.f2.length : Int) (y.f2.length : Int)) = headC x y := rfl
  rw [hq]
  have HE := Lib.hid (cmpT_eq x y)
  have HFF := HF w1 hb
  have HB := Aside0.mk hb
  clear hrx hry hcc hst hor hS0 hq hN hbw HF hb a0 a1 a2 b0 b1 b2
  generalize headC x y = r at *
  by_cases hr : r = 0
  · have hr1 : (r != 0) = false := bne_eq_false_iff_eq.mpr hr
    have HR := Lib.hid hr
    clear hr
    go_wp2_with (go_at_call 166; refine HFF.mono ?_; rintro e w2 ⟨rfl, hb2⟩)
    go_ret
    exact ⟨by rw [HE.out, if_neg (by rw [HR.out]; simp)]; rfl, below_step HB.out hb2⟩
  · have hr1 : (r != 0) = true := bne_iff_ne.mpr hr
    have HR := Lib.hid hr
    clear hr
    go_wp2
    go_ret
    exact ⟨by rw [HE.out, if_pos HR.out]; rfl, HB.out⟩

theorem compare_ok : ∀ (n : Nat) (x y : S24), szT x ≤ n → CmpOk x y
  | 0, x, _, h => by have := szT_pos x; omega
  | n + 1, x, y, h => compare_step x y (fun a b ha => compare_ok n a b (by
      have := szL_mem x.f2 a ha
      have h2 : szT x = szL x.f2 + 1 := by cases x; simp [szT]
      omega))

def types_Compare.f (a0_0 : Bool) (a0_1 : ByteArray) (l0_2 : List (S24)) (a1_0 : Bool) (a1_1 : ByteArray) (l1_2 : List (S24)) : Option Int := some (cmpT ⟨a0_0, a0_1, l0_2⟩ ⟨a1_0, a1_1, l1_2⟩)
theorem types_Compare.calls (a0_0 : Bool) (a0_1 : ByteArray) (A0_2 : Option Addr) (c0_2 : Nat) (l0_2 : List (S24)) (a1_0 : Bool) (a1_1 : ByteArray) (A1_2 : Option Addr) (c1_2 : Nat) (l1_2 : List (S24)) (r : Int) (w : World) (hr0_2 : Kd.C k24 w A0_2 l0_2.length l0_2) (hc0_2 : l0_2.length ≤ c0_2) (hr1_2 : Kd.C k24 w A1_2 l1_2.length l1_2) (hc1_2 : l1_2.length ≤ c1_2) (h : types_Compare.f a0_0 a0_1 l0_2 a1_0 a1_1 l1_2 = some r) :
    Calls Try.prog 94 #[.agg #[.bool a0_0, .string a0_1, .slice A0_2 l0_2.length c0_2], .agg #[.bool a1_0, .string a1_1, .slice A1_2 l1_2.length c1_2]] w fun e w' => e = .returned (.int .i64 r) ∧ Below w.heap.size w w' := by
  obtain rfl := Option.some.inj h
  exact compare_ok _ ⟨a0_0, a0_1, l0_2⟩ ⟨a1_0, a1_1, l1_2⟩ (Nat.le_refl _) A0_2 c0_2 A1_2 c1_2 w hr0_2 hc0_2 hr1_2 hc1_2
theorem szT_eq (t : S24) : szT t = szL t.f2 + 1 := by cases t; simp [szT]
end Go.Proofs.Ytecplbgdalchdaa.Q
/- Proved here: trees of types in memory that may be written. Conditions: those that each theorem names. -/
namespace Go.Proofs.Ytecplbgdalchdaa.Q
open Go.RowKit Go.Proofs.YtecplbgdalchdaaW.PrintWords Go.Proofs.YtecplbgdalchdaaW.PrintMore
set_option linter.unusedVariables false
set_option linter.unusedSimpArgs false

theorem szT_eq' (t : S24) : szT t = szL t.f2 + 1 := by cases t; simp [szT]
theorem szL_len : ∀ l : List S24, l.length ≤ szL l
  | [] => Nat.zero_le _
  | a :: l => by
    have h1 := szL_len l
    have h2 := szT_pos a
    simp only [szL, List.length_cons]
    omega
theorem box3s {w : World} {g : Nat} {t : TypeId} {a b c : Value} (h : w.heap[g]? = some (.cells #[a, b, c] t (0, 0))) :
    w.cell? ⟨g, 0, none⟩ = some a ∧ w.cell? ⟨g, 1, none⟩ = some b ∧ w.cell? ⟨g, 2, none⟩ = some c ∧ w.frozen? ⟨g, 0, none⟩ = false ∧ w.frozen? ⟨g, 1, none⟩ = false ∧ w.frozen? ⟨g, 2, none⟩ = false ∧ g < w.heap.size :=
  ⟨(box3 h).1, (box3 h).2.1, (box3 h).2.2.1, (box3 h).2.2.2.1, (box3 h).2.2.2.2.1, (box3 h).2.2.2.2.2, blk_lt h⟩
/-! ### Trees of the call's own, which may be written: each row lies in a block of its own kind, not frozen -/
inductive WT (w : World) (ok : Nat → Prop) : Value → List S24 → Prop where
  | nil (A : Option Addr) (c : Nat) : WT w ok (.slice A 0 c) []
  | row (g cap : Nat) (cur : Array Value) (l : List S24) (vs : Nat → Value) (hn : 0 < l.length) (hg : ok g) (hb : w.heap[g]? = some (.cells cur 24 (0, 0)))
      (hl : l.length ≤ cap) (hm : cap ≤ 9223372036854775807) (hz : cur.size = cap * 3)
      (h0 : ∀ j, j < l.length → cur[j * 3]? = some (.bool (rd_T24 l (j : Int)).f0)) (h1 : ∀ j, j < l.length → cur[j * 3 + 1]? = some (.string (rd_T24 l (j : Int)).f1))
      (h2 : ∀ j, j < l.length → cur[j * 3 + 2]? = some (vs j)) (hr : ∀ j, j < l.length → WT w ok (vs j) (rd_T24 l (j : Int)).f2) : WT w ok (.slice (some ⟨g, 0, none⟩) l.length cap) l

theorem WT.mono {w : World} {ok ok' : Nat → Prop} {v : Value} {l : List S24} (h : WT w ok v l) (hok : ∀ k, ok k → ok' k) : WT w ok' v l := by
  induction h with
  | nil A c => exact .nil A c
  | row g cap cur l vs hn hg hb hl hm hz h0 h1 h2 hr ih => exact .row g cap cur l vs hn (hok g hg) hb hl hm hz h0 h1 h2 (fun j hj => ih j hj)
theorem WT.step {w w1 : World} {ok : Nat → Prop} {v : Value} {l : List S24} (h : WT w ok v l) (hm : ∀ k, ok k → k < w.heap.size → w1.heap[k]? = w.heap[k]?) : WT w1 ok v l := by
  induction h with
  | nil A c => exact .nil A c
  | row g cap cur l vs hn hg hb hl hm' hz h0 h1 h2 hr ih => exact .row g cap cur l vs hn hg ((hm g hg (blk_lt hb)).trans hb) hl hm' hz h0 h1 h2 (fun j hj => ih j hj)
theorem WT.later {w w1 : World} {ok : Nat → Prop} {v : Value} {l : List S24} (h : WT w ok v l) (hb : Below w.heap.size w w1) : WT w1 ok v l := h.step (fun k _ hk => hb.block k hk)
theorem WT.far {w : World} {ok : Nat → Prop} {v : Value} {l : List S24} (h : WT w ok v l) (p : Addr) (u : Value) (hp : ∀ k, ok k → k ≠ p.block) : WT (w.setCell p u) ok v l := h.step (fun k hk _ => Below.heap_setCell w p u k (hp k hk))
theorem rd_get (l : List S24) (j : Nat) (p : S24) (h : l[j]? = some p) : j < l.length ∧ rd_T24 l (j : Int) = p := by
  obtain ⟨hj, hp⟩ := List.getElem?_eq_some_iff.1 h
  exact ⟨hj, by unfold rd_T24; simp only [Int.toNat_natCast]; rw [List.getD_eq_getElem?_getD, h]; rfl⟩
theorem add_zero_spot (g n : Nat) : Addr.add ⟨g, 0, none⟩ n = ⟨g, n, none⟩ := by
  unfold Addr.add
  split
  · rename_i h; rw [h]
  · simp
theorem WT.reads {w : World} {ok : Nat → Prop} {v : Value} {l : List S24} (h : WT w ok v l) : ∃ A c, v = .slice A l.length c ∧ l.length ≤ c ∧ k24.C w A l.length l := by
  induction h with
  | nil A c => exact ⟨A, c, rfl, Nat.zero_le _, rfl, by simp, fun h => absurd h (by simp)⟩
  | row g cap cur l vs hn hg hb hl hm hz h0 h1 h2 hr ih =>
    refine ⟨_, _, rfl, hl, rfl, by omega, fun _ => ⟨_, rfl, fun j p hj => ?_⟩⟩
    obtain ⟨hjl, hp⟩ := rd_get l j p hj
    obtain ⟨A, c, hv, hlc, hC⟩ := ih j hjl
    have g0 := h0 j hjl
    have g1 := h1 j hjl
    have g2 := h2 j hjl
    rw [hp] at g0 g1 hv hlc hC
    rw [hv] at g2
    refine ⟨[.bool p.f0, .string p.f1, .slice A p.f2.length c], rfl, k24_mk w p hlc hC, fun i u hu => ?_⟩
    · show w.cell? (Addr.add ⟨g, 0, none⟩ (j * 3 + i)) = some u
      rw [add_zero_spot, blk_cell hb]
      match i, hu with
      | 0, hu => exact g0.trans hu
      | 1, hu => exact g1.trans hu
      | 2, hu => exact g2.trans hu
      | i + 3, hu => simp at hu
theorem WT.V {w : World} {ok : Nat → Prop} {v : Value} {l : List S24} (h : WT w ok v l) (base : Nat) : Kd.V k24 24 w base ok v l := by
  obtain ⟨A, c, rfl, hl, hC⟩ := h.reads
  refine ⟨A, c, rfl, hl, fun W' hW => ?_⟩
  obtain ⟨A', c', he, _, hC'⟩ := (h.step (w1 := W') hW).reads
  injection he with ha _ _
  rw [ha]
  exact hC'
/-! ### A row of such trees under construction (append) -/
end Go.Proofs.Ytecplbgdalchdaa.Q
/- Proved here: the contract of types.Twin. Conditions: those that each theorem names. -/
namespace Go.Proofs.Ytecplbgdalchdaa.Q
open Go.RowKit Go.Shelf Go.Proofs.YtecplbgdalchdaaW.PrintWords Go.Proofs.YtecplbgdalchdaaW.PrintMore
set_option linter.unusedVariables false
set_option linter.unusedSimpArgs false
attribute [local go_sem] Oper.semAt_some

theorem run_mkT (W : World) (n : Nat) (hn : n ≤ 5864062014805) : (Instr.makeSlice 22 (.int .i64 (n : Int)) (.int .i64 (n : Int))).run Try.prog W = .ok (.slice (some ⟨W.heap.size, 0, none⟩) n n) (W.alloc (.cells (madeCells #[.bool false, .string ⟨#[]⟩, .slice none 0 0] (n * 3)) 24)) := by
  obtain ⟨i0, hi, hz0, hz1, hz2⟩ := info_parts info24
  have h := run_make (P := Try.prog) W 22 24 i0 _ Try.underlying22 hi hz0 .i64 .i64 (n : Int) (n : Int) (by omega) (by omega) (by rw [hz2]; omega) (by omega)
  rw [hz1] at h
  exact h

/-- What the loop of Twin has built. -/
structure TwinAt (w : World) (t : S24) (kk : Nat) (W : World) : Prop where
  b1 : W.heap[w.heap.size]? = some (.cells #[.bool t.f0, .string t.f1, .slice (some ⟨w.heap.size + 2, 0, none⟩) t.f2.length t.f2.length] 24 (0, 0))
  b2 : W.heap[w.heap.size + 1]? = some (.cells #[.bool false, .string ⟨#[]⟩, .slice none 0 0] 24 (0, 0))
  b3 : ∃ (cur : Array Value) (vs : Nat → Value), W.heap[w.heap.size + 2]? = some (.cells cur 24 (0, 0)) ∧ cur.size = t.f2.length * 3 ∧
    ∀ j, j < kk → cur[j * 3]? = some (.bool (rd_T24 t.f2 (j : Int)).f0) ∧ cur[j * 3 + 1]? = some (.string (rd_T24 t.f2 (j : Int)).f1) ∧ cur[j * 3 + 2]? = some (vs j) ∧ WT W (fun k => w.heap.size + 3 ≤ k) (vs j) (rd_T24 t.f2 (j : Int)).f2
  hb : Below w.heap.size w W

/-- The cells that the statement of the loop loads. -/
abbrev TwinS (w wr : World) (x : S24) (A2 : Option Addr) (c2 : Nat) (u : Value) (W : World) : Prop :=
  W.cell? ⟨wr.heap.size, 0, none⟩ = some (.bool x.f0) ∧ W.cell? ⟨wr.heap.size, 1, none⟩ = some (.string x.f1) ∧ W.cell? ⟨wr.heap.size, 2, none⟩ = some (.slice A2 x.f2.length c2) ∧ W.cell? ⟨w.heap.size, 2, none⟩ = some u ∧ Below w.heap.size w W
theorem TwinS.step {w wr W W' : World} {x : S24} {A2 : Option Addr} {c2 : Nat} {u : Value} (h : TwinS w wr x A2 c2 u W) (hb : Below W.heap.size W W') : TwinS w wr x A2 c2 u W' :=
  ⟨pw_cell_below hb h.1, pw_cell_below hb h.2.1, pw_cell_below hb h.2.2.1, pw_cell_below hb h.2.2.2.1, below_step h.2.2.2.2 hb⟩
theorem cell_away {W : World} {p q : Addr} {u v : Value} (h : W.cell? p = some v) (hne : p.block ≠ q.block) : (W.setCell q u).cell? p = some v := by
  unfold World.cell? at h ⊢
  rw [Below.heap_setCell W q u p.block hne]
  exact h
theorem TwinS.put {w wr W : World} {x : S24} {A2 : Option Addr} {c2 : Nat} {u : Value} (hlt : w.heap.size + 2 < wr.heap.size) (h : TwinS w wr x A2 c2 u W) (i j k : Nat) (a b c : Value) :
    TwinS w wr x A2 c2 u (((W.setCell ⟨w.heap.size + 2, i, none⟩ a).setCell ⟨w.heap.size + 2, j, none⟩ b).setCell ⟨w.heap.size + 2, k, none⟩ c) := by
  have n1 : wr.heap.size ≠ w.heap.size + 2 := by omega
  have n2 : w.heap.size ≠ w.heap.size + 2 := by omega
  exact ⟨cell_away (cell_away (cell_away h.1 n1) n1) n1, cell_away (cell_away (cell_away h.2.1 n1) n1) n1, cell_away (cell_away (cell_away h.2.2.1 n1) n1) n1, cell_away (cell_away (cell_away h.2.2.2.1 n2) n2) n2, ((h.2.2.2.2.setCell (by simp) _).setCell (by simp) _).setCell (by simp) _⟩
theorem TwinAt.next {w wr w1 : World} {t x : S24} {kk : Nat} {cur : Array Value} {vs : Nat → Value} {v : Value} (hX : rd_T24 t.f2 (kk : Int) = x)
    (b1 : wr.heap[w.heap.size]? = some (.cells #[.bool t.f0, .string t.f1, .slice (some ⟨w.heap.size + 2, 0, none⟩) t.f2.length t.f2.length] 24 (0, 0)))
    (b2 : wr.heap[w.heap.size + 1]? = some (.cells #[.bool false, .string ⟨#[]⟩, .slice none 0 0] 24 (0, 0)))
    (b3 : wr.heap[w.heap.size + 2]? = some (.cells cur 24 (0, 0))) (hz : cur.size = t.f2.length * 3)
    (hel : ∀ j, j < kk → cur[j * 3]? = some (.bool (rd_T24 t.f2 (j : Int)).f0) ∧ cur[j * 3 + 1]? = some (.string (rd_T24 t.f2 (j : Int)).f1) ∧ cur[j * 3 + 2]? = some (vs j) ∧ WT wr (fun k => w.heap.size + 3 ≤ k) (vs j) (rd_T24 t.f2 (j : Int)).f2)
    (hb : Below w.heap.size w wr) (hkk : kk < t.f2.length) (hWT : WT w1 (fun k => wr.heap.size ≤ k) v x.f2) (h1 : Below wr.heap.size wr w1) :
    TwinAt w t (kk + 1) (((w1.setCell ⟨w.heap.size + 2, kk * 3, none⟩ (.bool x.f0)).setCell ⟨w.heap.size + 2, kk * 3 + 1, none⟩ (.string x.f1)).setCell ⟨w.heap.size + 2, kk * 3 + 2, none⟩ v) := by
  have hs := blk_lt b3
  have W3 := blk_below b3 h1
  have P := blk_put (blk_put (blk_put W3 (kk * 3) (.bool x.f0) rfl) (kk * 3 + 1) (.string x.f1) rfl) (kk * 3 + 2) v rfl
  refine ⟨blk_far (blk_far (blk_far (blk_below b1 h1) (by simp) _) (by simp) _) (by simp) _, blk_far (blk_far (blk_far (blk_below b2 h1) (by simp) _) (by simp) _) (by simp) _,
    ⟨_, fun j => if j = kk then v else vs j, P, by simp [hz], fun j hj => ?_⟩, (((below_step hb h1).setCell (by simp) _).setCell (by simp) _).setCell (by simp) _⟩
  by_cases hjk : j = kk
  · subst hjk
    simp only [if_true]
    rw [hX]
    refine ⟨?_, ?_, ?_, ?_⟩
    · rw [Array.getElem?_setIfInBounds_ne (by omega), Array.getElem?_setIfInBounds_ne (by omega), Array.getElem?_setIfInBounds_self_of_lt (by omega)]
    · rw [Array.getElem?_setIfInBounds_ne (by omega), Array.getElem?_setIfInBounds_self_of_lt (by simp; omega)]
    · rw [Array.getElem?_setIfInBounds_self_of_lt (by simp; omega)]
    · exact (((hWT.far _ _ (fun k hk => by show k ≠ w.heap.size + 2; omega)).far _ _ (fun k hk => by show k ≠ w.heap.size + 2; omega)).far _ _ (fun k hk => by show k ≠ w.heap.size + 2; omega)).mono (fun k hk => by omega)
  · simp only [if_neg hjk]
    obtain ⟨q0, q1, q2, q3⟩ := hel j (by omega)
    refine ⟨?_, ?_, ?_, ?_⟩
    · rw [Array.getElem?_setIfInBounds_ne (by omega), Array.getElem?_setIfInBounds_ne (by omega), Array.getElem?_setIfInBounds_ne (by omega)]
      exact q0
    · rw [Array.getElem?_setIfInBounds_ne (by omega), Array.getElem?_setIfInBounds_ne (by omega), Array.getElem?_setIfInBounds_ne (by omega)]
      exact q1
    · rw [Array.getElem?_setIfInBounds_ne (by omega), Array.getElem?_setIfInBounds_ne (by omega), Array.getElem?_setIfInBounds_ne (by omega)]
      exact q2
    · exact ((((q3.later h1).far _ _ (fun k hk => by show k ≠ w.heap.size + 2; omega)).far _ _ (fun k hk => by show k ≠ w.heap.size + 2; omega)).far _ _ (fun k hk => by show k ≠ w.heap.size + 2; omega))

set_option maxHeartbeats 2000000 in
set_option maxRecDepth 100000 in
theorem twin_calls : ∀ (n : Nat) (t : S24) (A : Option Addr) (c : Nat) (w : World), szT t ≤ n → szT t ≤ 5864062014805 → k24.C w A t.f2.length t.f2 → t.f2.length ≤ c →
    Calls Try.prog 99 #[.agg #[.bool t.f0, .string t.f1, .slice A t.f2.length c]] w fun e w' => ∃ v, e = .returned (.agg #[.bool t.f0, .string t.f1, v]) ∧ WT w' (fun k => w.heap.size ≤ k) v t.f2 ∧ Below w.heap.size w w'
  | 0, t, A, c, w, h, _, _, _ => by have := szT_pos t; omega
  | n + 1, t, A, c, w, hn, hs, hA, hc => by
    have ih := fun (kk : Nat) (hk : kk < t.f2.length) A' c' W hC hc' => twin_calls n (rd_T24 t.f2 (kk : Int)) A' c' W (by
      have := szL_mem t.f2 _ (getD_mem t.f2 z24 kk hk)
      have h2 : szT t = szL t.f2 + 1 := by cases t; simp [szT]
      show szT (t.f2.getD kk z24) ≤ n
      omega) (by
      have := szL_mem t.f2 _ (getD_mem t.f2 z24 kk hk)
      have h2 : szT t = szL t.f2 + 1 := by cases t; simp [szT]
      show szT (t.f2.getD kk z24) ≤ 5864062014805
      omega) hC hc'
    have hlen : t.f2.length ≤ 5864062014805 := by
      have h2 : szT t = szL t.f2 + 1 := by cases t; simp [szT]
      have h3 := szL_len t.f2
      omega
    have HA := Aside0.mk hA
    have HC := Aside0.mk hc
    have IH := Aside0.mk ih
    clear hA hc ih hs hn
    have hb2 := below_two (w := w) (.cells #[.bool t.f0, .string t.f1, .slice none 0 0] 24) (.cells #[.bool false, .string ⟨#[]⟩, .slice none 0 0] 24)
    have B1 := blk_mid (w := w) (.cells #[.bool t.f0, .string t.f1, .slice none 0 0] 24) (.cells #[.bool false, .string ⟨#[]⟩, .slice none 0 0] 24)
    have B2 := blk_top (w := w) (.cells #[.bool t.f0, .string t.f1, .slice none 0 0] 24) (.cells #[.bool false, .string ⟨#[]⟩, .slice none 0 0] 24)
    rcases Nat.eq_zero_or_pos t.f2.length with h0 | h0
    · have d0 : decide (0 < t.f2.length) = false := decide_eq_false (by omega)
      have HL := List.length_eq_zero_iff.1 h0
      go_enter Try.func99, Try.ntmps99
      go_wp2
      generalize (w.alloc (.cells #[.bool t.f0, .string t.f1, .slice none 0 0] 24)).alloc (.cells #[.bool false, .string ⟨#[]⟩, .slice none 0 0] 24) = W0 at *
      go_loopg [18] 1 (fun gg v18 wr => v18 = .int .i64 0 ∧ wr = W0)
      case atStart => exact ⟨rfl, rfl⟩
      case round =>
        obtain ⟨rfl, rfl⟩ := hrel
        obtain ⟨c0, c1, c2, f0, f1, f2⟩ := box3 B1
        obtain ⟨e0, e1, e2, g0, g1, g2⟩ := box3 B2
        go_wp2
        refine bodyPost_ret (results_cell_row rfl _ _ (w.heap.size + 1) 24 #[.bool t.f0, .string t.f1, .slice none 0 0] (0, 0) _ rfl (set3 B2) Try.underlying24 rfl (by kernel_rfl)) rfl ?_
        exact ⟨_, rfl, by rw [HL]; exact .nil _ _, ((hb2.setCell (by simp) _).setCell (by simp) _).setCell (by simp) _⟩
    · have d0 : decide (0 < t.f2.length) = true := decide_eq_true h0
      have hmk := fun W => run_mkT W t.f2.length hlen
      go_enter Try.func99, Try.ntmps99
      go_wp2_with fail
      obtain ⟨W0, hW0⟩ : ∃ W0, ((w.alloc (.cells #[.bool t.f0, .string t.f1, .slice (some ⟨w.heap.size + 1 + 1, 0, none⟩) t.f2.length t.f2.length] 24)).alloc (.cells #[.bool false, .string ⟨#[]⟩, .slice none 0 0] 24)).alloc (.cells (madeCells #[.bool false, .string ⟨#[]⟩, .slice none 0 0] (t.f2.length * 3)) 24) = W0 := ⟨_, rfl⟩
      have hS0 : TwinAt w t 0 W0 := by
        rw [← hW0]
        refine ⟨blk_alloc (blk_mid _ _) _, blk_alloc (blk_top _ _) _, ⟨madeCells #[.bool false, .string ⟨#[]⟩, .slice none 0 0] (t.f2.length * 3), fun _ => undef, ?_, size_madeCells _ _, fun j hj => absurd hj (by omega)⟩, (below_two _ _).alloc (by simp; omega) _⟩
        have := blk_new ((w.alloc (.cells #[.bool t.f0, .string t.f1, .slice (some ⟨w.heap.size + 1 + 1, 0, none⟩) t.f2.length t.f2.length] 24)).alloc (.cells #[.bool false, .string ⟨#[]⟩, .slice none 0 0] 24)) (.cells (madeCells #[.bool false, .string ⟨#[]⟩, .slice none 0 0] (t.f2.length * 3)) 24)
        simpa using this
      rw [hW0]
      clear hW0 B1 B2 hb2 hmk
      go_loopg [18] t.f2.length (fun gg v18 wr => ∃ kk : Nat, kk ≤ t.f2.length ∧ gg + kk = t.f2.length ∧ v18 = .int .i64 (kk : Int) ∧ Aside0 (TwinAt w t kk wr))
      case atStart => exact ⟨0, by omega, by omega, rfl, ⟨hS0⟩⟩
      case round =>
        obtain ⟨kk, hk1, hk2, rfl, hT⟩ := hrel
        clear hS0
        obtain ⟨B1, B2, ⟨cur, vs, B3, hz, hel⟩, hb⟩ := hT.out
        obtain ⟨c0, c1, c2, f0, f1, f2⟩ := box3 B1
        obtain ⟨e0, e1, e2, g0, g1, g2⟩ := box3 B2
        by_cases hkk : kk < t.f2.length
        · have q0 : decide (kk < t.f2.length) = true := decide_eq_true hkk
          obtain ⟨ad, A2, c2', rfl, hx0, hx1, hx2, hl2, hC2⟩ := at_T24 HA.out (kk : Int) (by omega) (by omega)
          have HCE := fun (W : World) (hw : Below w.heap.size w W) => Kd.C_below hC2 hw
          replace hx0 := pw_cell_below hb hx0
          replace hx1 := pw_cell_below hb hx1
          replace hx2 := pw_cell_below hb hx2
          simp only [Int.toNat_natCast] at hx0 hx1 hx2
          have hcall := fun W (hw : TwinS w wr (rd_T24 t.f2 (kk : Int)) A2 c2' (.slice (some ⟨w.heap.size + 2, 0, none⟩) t.f2.length t.f2.length) W) => (IH.out kk hkk A2 c2' W (HCE W hw.2.2.2.2) hl2).mono (fun _ W' h => show ∃ v, _ ∧ WT W' (fun k => W.heap.size ≤ k) v _ ∧ Below W.heap.size W W' ∧ TwinS w wr (rd_T24 t.f2 (kk : Int)) A2 c2' (.slice (some ⟨w.heap.size + 2, 0, none⟩) t.f2.length t.f2.length) W' from by obtain ⟨v, h1, h2, h3⟩ := h; exact ⟨v, h1, h2, h3, hw.step h3⟩)
          have hlt := blk_lt B3
          clear HCE
          generalize hX : rd_T24 t.f2 (kk : Int) = x at hx0 hx1 hx2 hl2 hC2 hcall
          have HX := Lib.hid hX
          have HEL := Aside0.mk hel
          have HB1 := Aside0.mk B1
          have HB2 := Aside0.mk B2
          have HB3 := Aside0.mk B3
          have HB := Aside0.mk hb
          clear hX hel hb hC2 hT
          have hc0 : cur[kk * 3]? = some cur[kk * 3] := Array.getElem?_eq_getElem (by omega)
          have hc1 : cur[kk * 3 + 1]? = some cur[kk * 3 + 1] := Array.getElem?_eq_getElem (by omega)
          have hc2 : cur[kk * 3 + 2]? = some cur[kk * 3 + 2] := Array.getElem?_eq_getElem (by omega)
          go_wp2_with fail
          have hS1 : TwinS w wr x A2 c2' (.slice (some ⟨w.heap.size + 2, 0, none⟩) t.f2.length t.f2.length) (wr.alloc (.cells #[.bool x.f0, .string x.f1, .slice A2 x.f2.length c2'] 24)).drew := by
            have BN := blk_new wr (.cells #[.bool x.f0, .string x.f1, .slice A2 x.f2.length c2'] 24)
            obtain ⟨n0, n1, n2, _⟩ := box3 BN
            exact ⟨n0, n1, n2, (box3 (blk_alloc HB1.out (.cells #[.bool x.f0, .string x.f1, .slice A2 x.f2.length c2'] 24))).2.2.1, below_drew1 (HB.out.alloc HB.out.size _)⟩
          go_region_held3 (fun W => TwinS w wr x A2 c2' (.slice (some ⟨w.heap.size + 2, 0, none⟩) t.f2.length t.f2.length) W)
            (first | exact hS1 | assumption | exact TwinS.put hlt (by assumption) _ _ _ _ _ _)
            (first | (go_at_call 99; refine (hcall _ (by assumption)).mono ?_; rintro e w1 ⟨v, rfl, hWT, hB1, hN⟩; obtain ⟨A4, c4, hv4, _⟩ := hWT.reads; subst hv4; have hbN := below_step (below_drew1 (below_one (w := wr) (.cells #[.bool x.f0, .string x.f1, .slice A2 x.f2.length c2'] 24))) hB1; have W3 := blk_below HB3.out hbN; have s0 := (blk_cell W3 (kk * 3)).trans hc0; have s1 := (blk_cell W3 (kk * 3 + 1)).trans hc1; have s2 := (blk_cell W3 (kk * 3 + 2)).trans hc2; have r0 := blk_frozen W3 (kk * 3); have r1 := blk_frozen W3 (kk * 3 + 1); have r2 := blk_frozen W3 (kk * 3 + 2)))
          have HR := TwinAt.next (HX.out) HB1.out HB2.out HB3.out hz HEL.out HB.out hkk (hWT.mono (fun k hk => by simp at hk; omega)) hbN
          clear hbN hWT hS1 hcall W3 s0 s1 s2 r0 r1 r2 hc0 hc1 hc2 hx0 hx1 hx2 c0 c1 c2 f0 f1 f2 e0 e1 e2 g0 g1 g2
          try clear hS0
          go_wp2
          go_roundg (t.f2.length - kk - 1)
          case measure => omega
          case rel => exact ⟨kk + 1, by omega, by omega, by simp, ⟨HR⟩⟩
        · have q0 : decide (kk < t.f2.length) = false := decide_eq_false hkk
          obtain rfl : kk = t.f2.length := by omega
          clear hkk
          have HEL := Aside0.mk hel
          clear hel
          go_wp2
          refine bodyPost_ret (results_cell_row rfl _ _ (w.heap.size + 1) 24 #[.bool t.f0, .string t.f1, .slice (some ⟨w.heap.size + 2, 0, none⟩) t.f2.length t.f2.length] (0, 0) _ rfl (set3 B2) Try.underlying24 rfl (by kernel_rfl)) rfl ?_
          refine ⟨_, rfl, .row _ _ cur _ vs h0 (by show w.heap.size ≤ w.heap.size + 2; omega) (blk_far (blk_far (blk_far B3 (by simp) _) (by simp) _) (by simp) _) (Nat.le_refl _) (by omega) hz (fun j hj => (HEL.out j hj).1) (fun j hj => (HEL.out j hj).2.1) (fun j hj => (HEL.out j hj).2.2.1) (fun j hj => ?_), ((hb.setCell (by simp) _).setCell (by simp) _).setCell (by simp) _⟩
          refine WT.mono ((((HEL.out j hj).2.2.2.far _ _ ?_).far _ _ ?_).far _ _ ?_) (fun k hk => Nat.le_trans (by omega) hk)
          all_goals (intro k hk; show k ≠ w.heap.size + 1; omega)

def types_Twin.f (a0_0 : Bool) (a0_1 : ByteArray) (l0_2 : List (S24)) : Option (Bool × ByteArray × (List (S24))) :=
  if szL l0_2 < 5864062014805 then some (a0_0, a0_1, l0_2) else none
theorem types_Twin.tree (a0_0 : Bool) (a0_1 : ByteArray) (A0_2 : Option Addr) (c0_2 : Nat) (l0_2 : List (S24)) (r1 : Bool) (r2 : ByteArray) (r3 : List (S24)) (w : World) (hr0_2 : Kd.C k24 w A0_2 l0_2.length l0_2) (hc0_2 : l0_2.length ≤ c0_2) (h : types_Twin.f a0_0 a0_1 l0_2 = some (r1, r2, r3)) :
    Calls Try.prog 99 #[.agg #[.bool a0_0, .string a0_1, .slice A0_2 l0_2.length c0_2]] w fun e w' => ∃ v2_ : Value, e = .returned (.agg #[.bool r1, .string r2, v2_]) ∧ WT w' (fun k_ => w.heap.size ≤ k_) v2_ r3 ∧ Below w.heap.size w w' := by
  unfold types_Twin.f at h
  split at h
  · simp only [Option.some.injEq, Prod.mk.injEq] at h
    obtain ⟨rfl, rfl, rfl⟩ := h
    exact twin_calls _ ⟨a0_0, a0_1, l0_2⟩ A0_2 c0_2 w (Nat.le_refl _) (by simp only [szT]; omega) hr0_2 hc0_2
  · simp at h
theorem types_Twin.calls (a0_0 : Bool) (a0_1 : ByteArray) (A0_2 : Option Addr) (c0_2 : Nat) (l0_2 : List (S24)) (r1 : Bool) (r2 : ByteArray) (r3 : List (S24)) (w : World) (hr0_2 : Kd.C k24 w A0_2 l0_2.length l0_2) (hc0_2 : l0_2.length ≤ c0_2) (h : types_Twin.f a0_0 a0_1 l0_2 = some (r1, r2, r3)) :
    Calls Try.prog 99 #[.agg #[.bool a0_0, .string a0_1, .slice A0_2 l0_2.length c0_2]] w fun e w' => ∃ v2_ : Value, e = .returned (.agg #[.bool r1, .string r2, v2_]) ∧ Kd.V k24 24 w' w.heap.size (fun k_ => w.heap.size ≤ k_) v2_ r3 ∧ Below w.heap.size w w' :=
  (types_Twin.tree a0_0 a0_1 A0_2 c0_2 l0_2 r1 r2 r3 w hr0_2 hc0_2 h).mono (fun _ _ ⟨v, h1, h2, h3⟩ => ⟨v, h1, h2.V _, h3⟩)
end Go.Proofs.Ytecplbgdalchdaa.Q
/- Proved here: the contracts of types.Fun, types.Bool and of the laws' v. Conditions: those that each theorem names. -/
namespace Go.Proofs.Ytecplbgdalchdaa.Q
open Go.RowKit Go.Shelf Go.Proofs.YtecplbgdalchdaaW.PrintWords Go.Proofs.YtecplbgdalchdaaW.PrintMore
set_option linter.unusedVariables false
set_option linter.unusedSimpArgs false
attribute [local go_sem] Oper.semAt_some

def funN : ByteArray := ⟨#[102, 117, 110]⟩
def boolN : ByteArray := ⟨#[98, 111, 111, 108]⟩
end Go.Proofs.Ytecplbgdalchdaa.Q
/- Proved here: what the printed functions on sizes, names and shapes of types answer in the end. Conditions: those that each theorem names. -/
namespace Go.Proofs.Ytecplbgdalchdaa.Q
open Go.RowKit Go.Proofs.YtecplbgdalchdaaW.PrintWords Go.Proofs.YtecplbgdalchdaaW.PrintMore
set_option linter.unusedVariables false
set_option linter.unusedSimpArgs false

/-! ### What a function with a purse answers in the end -/
def Ev {α : Type} (f : Nat → Option α) (r : α) : Prop := ∃ K, ∀ k, K ≤ k → f k = some r
theorem Ev.pure {α : Type} (r : α) : Ev (fun _ => some r) r := ⟨0, fun _ _ => rfl⟩
theorem Ev.bind {α β : Type} {f : Nat → Option α} {g : α → Nat → Option β} {a : α} {r : β} (h : Ev f a) (h2 : Ev (fun k => g a k) r) : Ev (fun k => (f k).bind fun x => g x k) r := by
  obtain ⟨K, hK⟩ := h
  obtain ⟨K2, hK2⟩ := h2
  exact ⟨K + K2, fun k hk => by show (f k).bind _ = _; rw [hK k (by omega), Option.bind_some]; exact hK2 k (by omega)⟩
theorem Ev.succ {α : Type} {f : Nat → Option α} {r : α} (h : Ev (fun k => f (k + 1)) r) : Ev f r := by
  obtain ⟨K, hK⟩ := h
  exact ⟨K + 1, fun k hk => by
    obtain ⟨k', rfl⟩ : ∃ k', k = k' + 1 := ⟨k - 1, by omega⟩
    exact hK k' (by omega)⟩
theorem Ev.cong {α : Type} {f g : Nat → Option α} {r : α} (h : Ev g r) (e : ∀ k, f k = g k) : Ev f r := by
  obtain ⟨K, hK⟩ := h
  exact ⟨K, fun k hk => (e k).trans (hK k hk)⟩
theorem Ev.val {α : Type} {f : Nat → Option α} {r r' : α} (h : Ev f r) (e : r = r') : Ev f r' := e ▸ h
theorem Ev.at {α : Type} {f : Nat → Option α} {r : α} (h : Ev f r) : ∃ k, f k = some r := by
  obtain ⟨K, hK⟩ := h
  exact ⟨K, hK K (Nat.le_refl _)⟩
theorem down (P : Nat → Prop) (n : Nat) (hn : P n) (hs : ∀ j, j < n → P (j + 1) → P j) : P 0 := by
  have : ∀ d j, j + d = n → P j := by
    intro d
    induction d with
    | zero => intro j hj; have e : j = n := by omega
              rw [e]; exact hn
    | succ d ih => intro j hj; exact hs j (by omega) (ih (j + 1) (by omega))
  exact this n 0 (by omega)
theorem Ev.ite {α : Type} {c : Prop} [Decidable c] {f g : Nat → Option α} {r : α} (h : c → Ev f r) (h2 : ¬ c → Ev g r) : Ev (fun k => if c then f k else g k) r := by
  by_cases hc : c
  · exact (h hc).cong (fun k => if_pos hc)
  · exact (h2 hc).cong (fun k => if_neg hc)
theorem Ev.pos {α : Type} {c : Prop} [Decidable c] {f g : Nat → Option α} {r : α} (hc : c) (h : Ev f r) : Ev (fun k => if c then f k else g k) r := h.cong (fun k => if_pos hc)
theorem Ev.neg {α : Type} {c : Prop} [Decidable c] {f g : Nat → Option α} {r : α} (hc : ¬ c) (h : Ev g r) : Ev (fun k => if c then f k else g k) r := h.cong (fun k => if_neg hc)
theorem w64 {x : Int} (h0 : -9223372036854775808 ≤ x) (h1 : x < 9223372036854775808) : wrap64 x = x := by unfold wrap64; omega
theorem w64s {j : Nat} (h : j < 9223372036854775807) : wrap64 ((j : Int) + 1) = ((j + 1 : Nat) : Int) := by rw [w64 (by omega) (by omega)]; omega
theorem rdT (l : List S24) (j : Nat) (h : j < l.length) : rd_T24 l (j : Int) = l[j] := by
  unfold rd_T24
  simp only [Int.toNat_natCast]
  rw [List.getD_eq_getElem?_getD, List.getElem?_eq_getElem h]
  rfl

theorem szL_take (l : List S24) (j : Nat) (h : j < l.length) : szL (l.take (j + 1)) = szL (l.take j) + szT l[j] := by
  induction l generalizing j with
  | nil => simp at h
  | cons a l ih =>
    cases j with
    | zero => simp [szL]
    | succ j =>
      simp only [List.length_cons] at h
      simp only [List.take_succ_cons, szL, List.getElem_cons_succ]
      rw [ih j (by omega)]
      omega
theorem szL_le (l : List S24) (j : Nat) (h : j < l.length) : szL (l.take j) + szT l[j] ≤ szL l := by
  rw [← szL_take l j h]
  have : ∀ (l : List S24) (n : Nat), szL (l.take n) ≤ szL l := by
    intro l
    induction l with
    | nil => intro n; simp
    | cons a l ih =>
      intro n
      cases n with
      | zero => simp [szL]
      | succ n => simp only [List.take_succ_cons, szL]; have := ih n; omega
  exact this l (j + 1)
mutual
def dpT : S24 → Nat
  | ⟨_, _, l⟩ => dpL l + 1
def dpL : List S24 → Nat
  | [] => 0
  | a :: l => max (dpT a) (dpL l)
end
theorem dpT_eq (t : S24) : dpT t = dpL t.f2 + 1 := by cases t; simp [dpT]
theorem dpL_take (l : List S24) (j : Nat) (h : j < l.length) : dpL (l.take (j + 1)) = max (dpL (l.take j)) (dpT l[j]) := by
  induction l generalizing j with
  | nil => simp at h
  | cons a l ih =>
    cases j with
    | zero => simp [dpL]
    | succ j =>
      simp only [List.length_cons] at h
      simp only [List.take_succ_cons, dpL, List.getElem_cons_succ]
      rw [ih j (by omega)]
      omega
mutual
theorem dpT_le : ∀ t : S24, dpT t ≤ szT t
  | ⟨_, _, l⟩ => by simp only [dpT, szT]; have := dpL_le l; omega
theorem dpL_le : ∀ l : List S24, dpL l ≤ szL l
  | [] => by simp [dpL, szL]
  | a :: l => by simp only [dpL, szL]; have := dpT_le a; have := dpL_le l; omega
end
/-- Induction over trees. -/
theorem S_ind {P : S24 → Prop} (h : ∀ t, (∀ x, x ∈ t.f2 → P x) → P t) (t : S24) : P t := by
  have : ∀ n t, szT t ≤ n → P t := by
    intro n
    induction n with
    | zero => intro t ht; have := szT_pos t; omega
    | succ n ih =>
      intro t ht
      refine h t (fun x hx => ih x ?_)
      have := szL_mem t.f2 x hx
      have := szT_eq t
      omega
  exact this _ t (Nat.le_refl _)

theorem mx_nat (a b : Nat) : mx (a : Int) (b : Int) = ((max a b : Nat) : Int) := by
  unfold mx
  split <;> omega
/-! ### names -/
def okC (c : Int) : Bool := !(decide (c < 33) || decide (c > 126) || c == 40 || c == 41 || c == 44 || c == 58 || c == 92 || c == 46 || c == 34)
def okFrom (s : ByteArray) : Nat → Nat → Bool
  | 0, _ => true
  | d + 1, j => okC (bt s (j : Int)) && okFrom s d (j + 1)
def nameB (s : ByteArray) : Bool := decide (0 < s.size) && decide (s.size ≤ 30) && okFrom s s.size 0
def varB (s : ByteArray) : Bool := nameB s && (bt s 0 == 39)
theorem toList_nil (s : ByteArray) : s.toList = [] ↔ s.size = 0 := by
  rw [Go.ByteArray.toList_eq, ← data_length s]
  exact List.length_eq_zero_iff.symm
theorem name_j1 (s : ByteArray) (c n i : Int) (b r : Bool) (h : Ev (fun k => types_name.l0 k s n (wrap64 (i + 1))) r) : Ev (fun k => types_name.j1 k s c n i b) (!b && !decide (c < 33) && !decide (c > 126) && r) := by
  refine Ev.succ ?_
  simp only [types_name.j1]
  refine Ev.ite (fun e => (Ev.pure _).val (by simp [e])) (fun e => Ev.ite (fun e2 => (Ev.pure _).val (by simp [e2])) (fun e2 => Ev.ite (fun e3 => (Ev.pure _).val (by simp [e3])) (fun e3 => h.val ?_)))
  rw [Bool.not_eq_true] at e
  simp [e, e2, e3]
theorem name_l0 (s : ByteArray) (hs : s.size ≤ 4611686018427387904) : ∀ (d j : Nat), j + d = s.size → Ev (fun k => types_name.l0 k s (s.size : Int) (j : Int)) (okFrom s d j && (decide (0 < s.size) && decide (s.size ≤ 30)))
  | 0, j, hj => by
    refine Ev.succ ?_
    simp only [types_name.l0]
    refine Ev.neg (by omega) (?_)
    refine Ev.ite (fun e => (Ev.pure _).val ?_) (fun e => (Ev.pure _).val ?_)
    · rw [toList_nil] at e
      simp [okFrom, e]
    · rw [toList_nil] at e
      have h0 : 0 < s.size := by omega
      simp only [okFrom, h0, decide_true, Bool.true_and]
      exact decide_eq_decide.2 (by omega)
  | d + 1, j, hj => by
    have ih := name_l0 s hs d (j + 1) (by omega)
    refine Ev.succ ?_
    simp only [types_name.l0]
    refine Ev.pos (by omega) (Ev.pos (by omega) (Ev.pos (by omega) (?_)))
    rw [← w64s (by omega)] at ih
    have hj1 := fun b => name_j1 s (bt s (j : Int)) (s.size : Int) (j : Int) b _ ih
    simp only [okFrom]
    generalize bt s (j : Int) = c at *
    generalize HR : (okFrom s d (j + 1) && (decide (0 < s.size) && decide (s.size ≤ 30))) = r at *
    refine Ev.ite (fun e => (hj1 _).val ?_) (fun e => Ev.ite (fun e2 => (hj1 _).val ?_) (fun e2 => Ev.ite (fun e3 => (hj1 _).val ?_) (fun e3 => Ev.ite (fun e4 => (hj1 _).val ?_) (fun e4 => Ev.ite (fun e5 => (hj1 _).val ?_) (fun e5 => Ev.ite (fun e6 => (hj1 _).val ?_) (fun e6 => (hj1 _).val ?_))))))
    · simp [okC, e]
    · simp [okC, e2]
    · simp [okC, e3]
    · simp [okC, e4]
    · simp [okC, e5]
    · simp [okC, e6]
    · simp only [okC, beq_eq_false_iff_ne.mpr e, beq_eq_false_iff_ne.mpr e2, beq_eq_false_iff_ne.mpr e3, beq_eq_false_iff_ne.mpr e4, beq_eq_false_iff_ne.mpr e5, beq_eq_false_iff_ne.mpr e6, Bool.or_false]
      rw [← HR]
      cases (c == 34) <;> cases decide (c < 33) <;> cases decide (c > 126) <;> simp [Bool.and_assoc]
theorem name_ev (s : ByteArray) (hs : s.size ≤ 4611686018427387904) : Ev (fun k => types_name.f k s) (nameB s) := by
  simp only [types_name.f]
  refine (name_l0 s hs s.size 0 (by omega)).val ?_
  unfold nameB
  cases okFrom s s.size 0 <;> simp
theorem nameB_pos {s : ByteArray} (h : nameB s = true) : 0 < s.size := by
  unfold nameB at h
  simp only [Bool.and_eq_true, decide_eq_true_eq] at h
  exact h.1.1
theorem variable_ev (s : ByteArray) (hs : s.size ≤ 4611686018427387904) : Ev (fun k => types_variable.f k s) (varB s) := by
  simp only [types_variable.f]
  unfold varB
  refine Ev.bind (name_ev s hs) (Ev.ite (fun e => Ev.pos (by have := nameB_pos e; omega) ((Ev.pure _).val (by simp [e]))) (fun e => (Ev.pure _).val (by simp [e])))
/-! ### types -/
def headB (v : Bool) (n : ByteArray) (m : Nat) : Bool := nameB n && (if v = true then (bt n 0 == 39) && (m == 0) else !(bt n 0 == 39) && decide (m ≤ 8))
mutual
def shB : S24 → Bool
  | ⟨v, n, l⟩ => headB v n l.length && shBL l
def shBL : List S24 → Bool
  | [] => true
  | a :: l => shB a && shBL l
end
theorem shB_eq (t : S24) : shB t = (headB t.f0 t.f1 t.f2.length && shBL t.f2) := by cases t; simp [shB]
theorem shBL_take (l : List S24) (j : Nat) (h : j < l.length) : shBL (l.take (j + 1)) = (shBL (l.take j) && shB l[j]) := by
  induction l generalizing j with
  | nil => simp at h
  | cons a l ih =>
    cases j with
    | zero => simp [shBL]
    | succ j =>
      simp only [List.length_cons] at h
      simp only [List.take_succ_cons, shBL, List.getElem_cons_succ]
      rw [ih j (by omega), Bool.and_assoc]
theorem shBL_drop (l : List S24) (j : Nat) (h : j < l.length) : shBL (l.drop j) = (shB l[j] && shBL (l.drop (j + 1))) := by
  rw [List.drop_eq_getElem_cons h]
  rfl
mutual
def allT (P : S24 → Prop) : S24 → Prop
  | ⟨v, n, l⟩ => P ⟨v, n, l⟩ ∧ allL P l
def allL (P : S24 → Prop) : List S24 → Prop
  | [] => True
  | a :: l => allT P a ∧ allL P l
end
theorem allT_eq (P : S24 → Prop) (t : S24) : allT P t ↔ P t ∧ allL P t.f2 := by cases t; simp [allT]
theorem allL_mem (P : S24 → Prop) : ∀ (l : List S24), allL P l ↔ ∀ x, x ∈ l → allT P x
  | [] => by simp [allL]
  | a :: l => by simp [allL, allL_mem P l]
/-- What any machine can hold. -/
def okS (s : ByteArray) : Prop := s.size ≤ 4611686018427387904
def fit (t : S24) : Prop := szT t ≤ 4611686018427387904 ∧ allT (fun x => okS x.f1) t
theorem fit_mem {t x : S24} (h : fit t) (hx : x ∈ t.f2) : fit x := by
  have h1 := szL_mem t.f2 x hx
  have h2 := szT_eq t
  exact ⟨by have := h.1; omega, (allL_mem _ _).1 ((allT_eq _ t).1 h.2).2 x hx⟩
theorem fit_name {t : S24} (h : fit t) : t.f1.size ≤ 4611686018427387904 := ((allT_eq _ t).1 h.2).1

/-- Every row and name is of a length that a machine can bear; of the whole tree nothing is said. -/
def wd (t : S24) : Prop := allT (fun x => okS x.f1 ∧ x.f2.length ≤ 4611686018427387904) t
theorem wd_mem {t x : S24} (h : wd t) (hx : x ∈ t.f2) : wd x := (allL_mem _ _).1 ((allT_eq _ t).1 h).2 x hx
theorem wd_name {t : S24} (h : wd t) : t.f1.size ≤ 4611686018427387904 := ((allT_eq _ t).1 h).1.1
theorem wd_len {t : S24} (h : wd t) : t.f2.length ≤ 4611686018427387904 := ((allT_eq _ t).1 h).1.2
theorem allT_imp {P Q : S24 → Prop} (hi : ∀ x, P x → Q x) (t : S24) : allT P t → allT Q t := by
  induction t using S_ind with
  | _ t ih =>
    intro h
    have h2 := (allT_eq _ t).1 h
    exact (allT_eq _ t).2 ⟨hi t h2.1, (allL_mem _ _).2 (fun x hx => ih x hx ((allL_mem _ _).1 h2.2 x hx))⟩
theorem fit_of_wd {t : S24} (h : wd t) (hs : szT t ≤ 4611686018427387904) : fit t := ⟨hs, allT_imp (fun _ h => h.1) t h⟩
theorem nat_beq0 (n : Nat) : ((n : Int) == 0) = (n == 0) := by
  cases n with
  | zero => rfl
  | succ n => rw [beq_eq_false_iff_ne.mpr (show ((n + 1 : Nat) : Int) ≠ 0 by omega), beq_eq_false_iff_ne.mpr (show n + 1 ≠ 0 by omega)]
theorem measure_ev (t : S24) : fit t → Ev (fun k => types_measure.f k t.f0 t.f1 t.f2) ((szT t : Int), (dpT t : Int), shB t) := by
  induction t using S_ind with
  | _ t ih =>
  intro hf
  have hb := hf.1
  have hd := dpT_le t
  rw [szT_eq] at hb hd
  rw [dpT_eq] at hd
  have hl := szL_len t.f2
  have hloop : ∀ (b : Bool) a0 a1, Ev (fun k => types_measure.j0 k 1 0 b a0 a1 t.f2) ((szT t : Int), (dpT t : Int), b && shBL t.f2) := by
    intro b a0 a1
    refine Ev.succ ?_
    simp only [types_measure.j0]
    refine Ev.cong (down (fun j => Ev (fun k => types_measure.l0 k ((1 + szL (t.f2.take j) : Nat) : Int) ((dpL (t.f2.take j) : Nat) : Int) (b && shBL (t.f2.take j)) t.f2 (t.f2.length : Int) (j : Int)) ((szT t : Int), (dpT t : Int), b && shBL t.f2)) t.f2.length ?_ ?_) (fun k => by simp [szL, dpL, shBL])
    · refine Ev.succ ?_
      simp only [types_measure.l0, List.take_length]
      refine Ev.neg (by omega) ((Ev.pure _).val ?_)
      rw [szT_eq, dpT_eq, w64 (by omega) (by omega)]
      exact Prod.ext (by simp; omega) (Prod.ext (by simp) rfl)
    · intro j hj h
      refine Ev.succ ?_
      have hle := szL_le t.f2 j hj
      simp only [types_measure.l0]
      refine Ev.pos (by omega) (Ev.pos (by omega) (Ev.pos (by omega) ?_))
      rw [rdT t.f2 j hj]
      refine Ev.bind (ih _ (List.getElem_mem hj) (fit_mem hf (List.getElem_mem hj))) ?_
      dsimp only
      rw [w64s (by omega), mx_nat, w64 (by omega) (by omega)]
      rw [szL_take t.f2 j hj, dpL_take t.f2 j hj, shBL_take t.f2 j hj] at h
      refine Ev.ite (fun e => ?_) (fun e => ?_)
      · simp only [Bool.and_eq_true] at e
        rw [e.1, e.2] at h
        simp only [Bool.true_and] at h
        rw [e.1]
        exact h.cong (fun k => by congr 1; omega)
      · have e2 : (b && (shBL (t.f2.take j) && shB t.f2[j])) = false := by
          rw [← Bool.and_assoc]
          rw [Bool.not_eq_true] at e
          rw [e]
          rfl
        rw [e2] at h
        exact h.cong (fun k => by congr 1; omega)
  have hn := fit_name hf
  refine Ev.succ ?_
  simp only [types_measure.f]
  rw [shB_eq]
  unfold headB
  refine Ev.ite (fun e => ?_) (fun e => ?_)
  · refine Ev.bind (variable_ev _ hn) (Ev.ite (fun e2 => (hloop _ _ _).val ?_) (fun e2 => (hloop _ _ _).val ?_))
    · unfold varB at e2
      simp only [Bool.and_eq_true] at e2
      rw [if_pos e, e2.1, e2.2, nat_beq0]
      simp
    · unfold varB at e2
      rw [Bool.not_eq_true] at e2
      rw [if_pos e, ← Bool.and_assoc, e2]
      simp
  · rw [if_neg e]
    refine Ev.bind (name_ev _ hn) (Ev.ite (fun e2 => Ev.pos (by have := nameB_pos e2; omega) (Ev.ite (fun e3 => (hloop _ _ _).val ?_) (fun e3 => (hloop _ _ _).val ?_))) (fun e2 => (hloop _ _ _).val ?_))
    · simp [e3]
    · rw [e2, beq_eq_false_iff_ne.mpr e3, show decide ((t.f2.length : Int) ≤ 8) = decide (t.f2.length ≤ 8) from decide_eq_decide.2 (by omega)]
      simp
    · rw [Bool.not_eq_true] at e2
      rw [e2]
      simp
def chkB (t : S24) : Bool := shB t && decide (szT t ≤ 500) && decide (dpT t ≤ 200)
theorem check_ev (t : S24) (hf : fit t) : Ev (fun k => types_Check.f k t.f0 t.f1 t.f2) (if chkB t = true then 0 else 10) := by
  simp only [types_Check.f]
  unfold chkB
  refine Ev.bind (measure_ev t hf) ?_
  dsimp only
  refine Ev.ite (fun e => Ev.ite (fun e2 => (Ev.pure _).val ?_) (fun e2 => Ev.ite (fun e3 => (Ev.pure _).val ?_) (fun e3 => (Ev.pure _).val ?_))) (fun e => (Ev.pure _).val ?_)
  · rw [decide_eq_false (show ¬ szT t ≤ 500 by omega)]
    simp
  · rw [decide_eq_false (show ¬ dpT t ≤ 200 by omega)]
    simp
  · rw [decide_eq_true (show szT t ≤ 500 by omega), decide_eq_true (show dpT t ≤ 200 by omega), e]
    simp
  · rw [Bool.not_eq_true] at e
    rw [e]
    simp
end Go.Proofs.Ytecplbgdalchdaa.Q
/- Proved here: valid substitutions: what types.valid answers. Conditions: those that each theorem names. -/
namespace Go.Proofs.Ytecplbgdalchdaa.Q
open Go.RowKit Go.Shelf Go.Proofs.YtecplbgdalchdaaW.PrintWords Go.Proofs.YtecplbgdalchdaaW.PrintMore
set_option linter.unusedVariables false
set_option linter.unusedSimpArgs false
attribute [local go_sem] Oper.semAt_some

/-! ### What Inst answers -/
end Go.Proofs.Ytecplbgdalchdaa.Q
/- Proved here: rows of bindings under construction (append), each binding's type being a tree of the call's own. Conditions: those that each theorem names. -/
namespace Go.Proofs.Ytecplbgdalchdaa.Q
open Go.RowKit Go.Proofs.YtecplbgdalchdaaW.PrintWords Go.Proofs.YtecplbgdalchdaaW.PrintMore
set_option linter.unusedVariables false
set_option linter.unusedSimpArgs false

end Go.Proofs.Ytecplbgdalchdaa.Q
/- Proved here: the contract of types.Same. Conditions: those that each theorem names. -/
namespace Go.Proofs.Ytecplbgdalchdaa.Q
open Go.RowKit Go.Shelf Go.Proofs.YtecplbgdalchdaaW.PrintWords Go.Proofs.YtecplbgdalchdaaW.PrintMore
set_option linter.unusedVariables false
set_option linter.unusedSimpArgs false
attribute [local go_sem] Oper.semAt_some
end Go.Proofs.Ytecplbgdalchdaa.Q
/- Proved here: the contract of types.match. Conditions: those that each theorem names. -/
namespace Go.Proofs.Ytecplbgdalchdaa.Q
open Go.RowKit Go.Shelf Go.Proofs.YtecplbgdalchdaaW.PrintWords Go.Proofs.YtecplbgdalchdaaW.PrintMore
set_option linter.unusedVariables false
set_option linter.unusedSimpArgs false
attribute [local go_sem] Oper.semAt_some

/-! ### match -/
end Go.Proofs.Ytecplbgdalchdaa.Q
/- Proved here: the contract of types.Match. Conditions: those that each theorem names. -/
namespace Go.Proofs.Ytecplbgdalchdaa.Q
open Go.RowKit Go.Shelf Go.Proofs.YtecplbgdalchdaaW.PrintWords Go.Proofs.YtecplbgdalchdaaW.PrintMore
set_option linter.unusedVariables false
set_option linter.unusedSimpArgs false
attribute [local go_sem] Oper.semAt_some

/-! ### Match -/
end Go.Proofs.Ytecplbgdalchdaa.Q
/- Proved here: what the reference's functions on sizes, names and shapes of types answer in the end. Conditions: those that each theorem names. -/
namespace Go.Proofs.Ytecplbgdalchdaa.Q
open Go.RowKit Go.Proofs.YtecplbgdalchdaaW.PrintWords Go.Proofs.YtecplbgdalchdaaW.PrintMore
set_option linter.unusedVariables false
set_option linter.unusedSimpArgs false

theorem refsize_ev (t : S24) : szT t ≤ 4611686018427387904 → Ev (fun k => sequentref01_Size.f k t.f0 t.f1 t.f2) (szT t : Int) := by
  induction t using S_ind with
  | _ t ih =>
  intro hb
  rw [szT_eq] at hb ⊢
  refine Ev.succ ?_
  simp only [sequentref01_Size.f]
  have hl := szL_len t.f2
  refine Ev.cong (down (fun j => Ev (fun k => sequentref01_Size.l0 k ((1 + szL (t.f2.take j) : Nat) : Int) (j : Int) t.f0 t.f1 t.f2) ((szL t.f2 + 1 : Nat) : Int)) t.f2.length ?_ ?_) (fun k => by simp [szL])
  · refine Ev.succ ?_
    simp only [sequentref01_Size.l0, List.take_length]
    refine Ev.neg (by omega) (?_)
    exact (Ev.pure _).val (by omega)
  · intro j hj h
    refine Ev.succ ?_
    have hle := szL_le t.f2 j hj
    simp only [sequentref01_Size.l0]
    refine Ev.pos (by omega) (Ev.pos (by omega) (?_))
    rw [rdT t.f2 j hj]
    refine Ev.bind (ih _ (List.getElem_mem hj) (by omega)) ?_
    rw [w64s (by omega), w64 (by omega) (by omega)]
    rw [szL_take t.f2 j hj] at h
    exact h.cong (fun k => by congr 1; omega)
theorem refdepth_ev (t : S24) : szT t ≤ 4611686018427387904 → Ev (fun k => sequentref01_Depth.f k t.f0 t.f1 t.f2) (dpT t : Int) := by
  induction t using S_ind with
  | _ t ih =>
  intro hb
  have hd := dpT_le t
  rw [szT_eq] at hb hd
  rw [dpT_eq] at hd ⊢
  refine Ev.succ ?_
  simp only [sequentref01_Depth.f]
  have hl := szL_len t.f2
  refine Ev.cong (down (fun j => Ev (fun k => sequentref01_Depth.l0 k ((dpL (t.f2.take j) : Nat) : Int) (j : Int) t.f0 t.f1 t.f2) ((dpL t.f2 + 1 : Nat) : Int)) t.f2.length ?_ ?_) (fun k => by simp [dpL])
  · refine Ev.succ ?_
    simp only [sequentref01_Depth.l0, List.take_length]
    refine Ev.neg (by omega) (?_)
    rw [w64 (by omega) (by omega)]
    exact (Ev.pure _).val (by omega)
  · intro j hj h
    refine Ev.succ ?_
    have hle := szL_le t.f2 j hj
    simp only [sequentref01_Depth.l0]
    refine Ev.pos (by omega) (Ev.pos (by omega) (?_))
    rw [rdT t.f2 j hj]
    refine Ev.bind (ih _ (List.getElem_mem hj) (by omega)) ?_
    rw [w64s (by omega), mx_nat]
    rw [dpL_take t.f2 j hj] at h
    exact h

theorem refname_l0 (s : ByteArray) (hs : s.size ≤ 4611686018427387904) : ∀ (d j : Nat), j + d = s.size → Ev (fun k => sequentref01_Name.l0 k s (j : Int)) (okFrom s d j)
  | 0, j, hj => by
    refine Ev.succ ?_
    simp only [sequentref01_Name.l0]
    refine Ev.neg (by omega) ?_
    exact Ev.pure _
  | d + 1, j, hj => by
    have ih := refname_l0 s hs d (j + 1) (by omega)
    refine Ev.succ ?_
    simp only [sequentref01_Name.l0]
    refine Ev.pos (by omega) (Ev.pos (by omega) ?_)
    rw [← w64s (by omega)] at ih
    simp only [okFrom]
    generalize bt s (j : Int) = c at *
    refine Ev.ite (fun e => (Ev.pure _).val ?_) (fun e => Ev.ite (fun e2 => (Ev.pure _).val ?_) (fun e2 => Ev.ite (fun e3 => (Ev.pure _).val ?_) (fun e3 => Ev.ite (fun e4 => (Ev.pure _).val ?_) (fun e4 => Ev.ite (fun e5 => (Ev.pure _).val ?_) (fun e5 => Ev.ite (fun e6 => (Ev.pure _).val ?_) (fun e6 => Ev.ite (fun e7 => (Ev.pure _).val ?_) (fun e7 => Ev.ite (fun e8 => (Ev.pure _).val ?_) (fun e8 => Ev.ite (fun e9 => (Ev.pure _).val ?_) (fun e9 => ih.val ?_)))))))))
    · simp [okC, e]
    · simp [okC, e2]
    · simp [okC, e3]
    · simp [okC, e4]
    · simp [okC, e5]
    · simp [okC, e6]
    · simp [okC, e7]
    · simp [okC, e8]
    · simp [okC, e9]
    · simp only [okC, decide_eq_false e, decide_eq_false e2, beq_eq_false_iff_ne.mpr e3, beq_eq_false_iff_ne.mpr e4, beq_eq_false_iff_ne.mpr e5, beq_eq_false_iff_ne.mpr e6, beq_eq_false_iff_ne.mpr e7, beq_eq_false_iff_ne.mpr e8, beq_eq_false_iff_ne.mpr e9, Bool.or_false, Bool.not_false, Bool.true_and]
theorem refname_ev (s : ByteArray) (hs : s.size ≤ 4611686018427387904) : Ev (fun k => sequentref01_Name.f k s) (nameB s) := by
  simp only [sequentref01_Name.f]
  unfold nameB
  refine Ev.ite (fun e => Ev.succ ?_) (fun e => Ev.succ ?_)
  · simp only [sequentref01_Name.j0]
    refine Ev.pos trivial ((Ev.pure _).val ?_)
    rw [decide_eq_false (show ¬ 0 < s.size by omega)]
    rfl
  · simp only [sequentref01_Name.j0]
    refine Ev.ite (fun e2 => (Ev.pure _).val ?_) (fun e2 => (refname_l0 s hs s.size 0 (by omega)).val ?_)
    · rw [decide_eq_true_iff] at e2
      rw [decide_eq_false (show ¬ s.size ≤ 30 by omega)]
      simp
    · rw [decide_eq_true_iff] at e2
      rw [decide_eq_true (show s.size ≤ 30 by omega), decide_eq_true (show 0 < s.size by omega)]
      simp
theorem refsmall_ev (t : S24) (hf : szT t ≤ 4611686018427387904) : Ev (fun k => sequentref01_Small.f k t.f0 t.f1 t.f2) (decide (szT t ≤ 500) && decide (dpT t ≤ 200)) := by
  simp only [sequentref01_Small.f]
  refine Ev.bind (refsize_ev t hf) (Ev.ite (fun e => Ev.bind (refdepth_ev t hf) ((Ev.pure _).val ?_)) (fun e => (Ev.pure _).val ?_))
  · rw [decide_eq_true (show szT t ≤ 500 by omega), Bool.true_and]
    exact decide_eq_decide.2 (by omega)
  · rw [decide_eq_false (show ¬ szT t ≤ 500 by omega), Bool.false_and]
theorem shape_ev (t : S24) : fit t → Ev (fun k => sequentref01_shape.f k t.f0 t.f1 t.f2) (shB t) := by
  induction t using S_ind with
  | _ t ih =>
  intro hf
  have hb := hf.1
  rw [szT_eq] at hb
  have hl := szL_len t.f2
  have hloop : ∀ (b : Bool), Ev (fun k => sequentref01_shape.j0 k b t.f0 t.f1 t.f2) (!b && shBL t.f2) := by
    intro b
    refine Ev.succ ?_
    simp only [sequentref01_shape.j0]
    refine Ev.ite (fun e => (Ev.pure _).val (by simp [e])) (fun e => ?_)
    have hd := down (fun j => Ev (fun k => sequentref01_shape.l0 k (j : Int) t.f0 t.f1 t.f2) (shBL (t.f2.drop j))) t.f2.length ?_ ?_
    · rw [Bool.not_eq_true] at e
      exact hd.val (by simp [e])
    · refine Ev.succ ?_
      simp only [sequentref01_shape.l0]
      refine Ev.neg (by omega) ((Ev.pure _).val ?_)
      rw [List.drop_length]
      rfl
    · intro j hj h
      refine Ev.succ ?_
      simp only [sequentref01_shape.l0]
      refine Ev.pos (by omega) (Ev.pos (by omega) ?_)
      rw [rdT t.f2 j hj]
      refine Ev.bind (ih _ (List.getElem_mem hj) (fit_mem hf (List.getElem_mem hj))) ?_
      rw [w64s (by omega), shBL_drop t.f2 j hj]
      refine Ev.ite (fun e => h.val (by simp [e])) (fun e => (Ev.pure _).val ?_)
      rw [Bool.not_eq_true] at e
      simp [e]
  refine Ev.succ ?_
  simp only [sequentref01_shape.f]
  rw [shB_eq]
  unfold headB
  refine Ev.bind (refname_ev _ (fit_name hf)) (Ev.ite (fun e => Ev.pos (by have := nameB_pos e; omega) (Ev.ite (fun e2 => (hloop _).val ?_) (fun e2 => Ev.ite (fun e3 => Ev.ite (fun e4 => (hloop _).val ?_) (fun e4 => (hloop _).val ?_)) (fun e3 => (hloop _).val ?_)))) (fun e => (hloop _).val ?_))
  · rw [e]
    cases h0 : t.f0 <;> cases h1 : (bt t.f1 0 == 39) <;> rw [h0, h1] at e2 <;> simp_all
  · rw [e, if_pos e3, show (t.f2.length == 0) = false from beq_eq_false_iff_ne.mpr (by omega)]
    simp
  · rw [e, if_pos e3, show t.f2.length = 0 by omega]
    cases h1 : (bt t.f1 0 == 39) <;> rw [e3, h1] at e2 <;> simp_all
  · rw [e, if_neg e3]
    rw [Bool.not_eq_true] at e3
    cases h1 : (bt t.f1 0 == 39) <;> rw [e3, h1] at e2
    · simp only [Bool.not_false, Bool.true_and]
      congr 1
      rw [← decide_not]
      exact decide_eq_decide.2 (by omega)
    · simp at e2
  · rw [Bool.not_eq_true] at e
    rw [e]
    simp
theorem valid_ev (t : S24) (hf : fit t) : Ev (fun k => sequentref01_Valid.f k t.f0 t.f1 t.f2) (chkB t) := by
  simp only [sequentref01_Valid.f]
  unfold chkB
  refine Ev.bind (refsmall_ev t hf.1) (Ev.ite (fun e => Ev.bind (shape_ev t hf) ((Ev.pure _).val ?_)) (fun e => (Ev.pure _).val ?_))
  · rw [Bool.and_assoc, e, Bool.and_true]
  · rw [Bool.not_eq_true] at e
    rw [Bool.and_assoc, e, Bool.and_false]
end Go.Proofs.Ytecplbgdalchdaa.Q
/- Proved here: names of variables, constants and operators. Conditions: those that each theorem names. -/
namespace Go.Proofs.Ytecplbgdalchdaa.Q
open Go.RowKit Go.Shelf Go.Proofs.YtecplbgdalchdaaW.PrintWords Go.Proofs.YtecplbgdalchdaaW.PrintMore
set_option linter.unusedVariables false
set_option linter.unusedSimpArgs false

def nmC (n : ByteArray) : Bool := nameB n && !(bt n 0 == 39)
theorem fit_leaf (v : Bool) (n : ByteArray) (h : okS n) : fit ⟨v, n, []⟩ := ⟨by simp [szT, szL], by simp [allT, allL, h]⟩
theorem chk_leaf (n : ByteArray) : chkB ⟨false, n, []⟩ = nmC n := by
  simp [chkB, shB, shBL, headB, nmC, szT, szL, dpT, dpL]
theorem rname_ev (n : ByteArray) (h : okS n) : Ev (fun k => sequentref02_Name.f k n) (nmC n) := by
  simp only [sequentref02_Name.f]
  refine Ev.bind (refname_ev n h) (Ev.ite (fun e => Ev.pos ?_ ((Ev.pure _).val ?_)) (fun e => (Ev.pure _).val ?_))
  · have e' := e
    simp only [nameB, Bool.and_eq_true, decide_eq_true_eq] at e'
    omega
  · simp [nmC, e, bne]
  · simp [nmC, e]

end Go.Proofs.Ytecplbgdalchdaa.Q
/- Proved here: comparing types is a total order (plain laws, no program in sight). Conditions: those that each theorem names. -/
namespace Go.Proofs.Ytecplbgdalchdaa.Q
open Go.RowKit Go.Proofs.YtecplbgdalchdaaW.PrintWords Go.Proofs.YtecplbgdalchdaaW.PrintMore
set_option linter.unusedVariables false
set_option linter.unusedSimpArgs false

def lx (a b : Int) : Int := if a ≠ 0 then a else b
theorem or3_lx (a b c : Int) : or3 a b c = lx a (lx b c) := rfl
theorem cmpT_lx (a b : S24) : cmpT a b = lx (headC a b) (cmpL a.f2 b.f2) := cmpT_eq a b
theorem cmpL_lx (a b : S24) (l m : List S24) : cmpL (a :: l) (b :: m) = lx (cmpT a b) (cmpL l m) := by rw [cmpL]; rfl
end Go.Proofs.Ytecplbgdalchdaa.Q
-- written by a program of this session (wip/tools/myprint.py) out of the translation
namespace Go.Proofs.Ytecplbgdalchdaa.Q
open Go.RowKit Go.Proofs.YtecplbgdalchdaaW.PrintWords Go.Proofs.YtecplbgdalchdaaW.PrintLast Go.Proofs.YtecplbgdalchdaaW.PrintMore
attribute [local go_sem] max2_int min2_int max_two min_two max_three min_three max_four min_four   -- for this text's walks alone
set_option linter.unusedVariables false
set_option linter.unusedSimpArgs false

/-! ### types_Same: function 52 -/
def types_Same.f (a0_0 : Bool) (a0_1 : ByteArray) (l0_2 : List (S24)) (a1_0 : Bool) (a1_1 : ByteArray) (l1_2 : List (S24)) : Option (Bool) := (types_Compare.f a0_0 a0_1 l0_2 a1_0 a1_1 l1_2).bind fun t130 => (some (t130 == 0))
set_option maxHeartbeats 8000000 in
set_option maxRecDepth 100000 in
theorem types_Same.calls (a0_0 : Bool) (a0_1 : ByteArray) (A0_2 : Option Addr) (c0_2 : Nat) (l0_2 : List (S24)) (a1_0 : Bool) (a1_1 : ByteArray) (A1_2 : Option Addr) (c1_2 : Nat) (l1_2 : List (S24)) (r : Bool) (w : World) (hr0_2 : Kd.C k24 w A0_2 l0_2.length l0_2) (hc0_2 : l0_2.length ≤ c0_2) (hr1_2 : Kd.C k24 w A1_2 l1_2.length l1_2) (hc1_2 : l1_2.length ≤ c1_2) (h : types_Same.f a0_0 a0_1 l0_2 a1_0 a1_1 l1_2 = some r) :
 Calls Try.prog 52 #[.agg #[.bool a0_0, .string a0_1, .slice A0_2 l0_2.length c0_2], .agg #[.bool a1_0, .string a1_1, .slice A1_2 l1_2.length c1_2]] w fun e w' => e = .returned (.bool r) ∧ Below w.heap.size w w' := by
 have hu24 := Try.underlying24
 have HR0_2 := Aside0.mk hr0_2
 have HC0_2 := Aside0.mk hc0_2
 clear hr0_2 hc0_2
 have HR1_2 := Aside0.mk hr1_2
 have HC1_2 := Aside0.mk hc1_2
 clear hr1_2 hc1_2
 have HB := Aside0.mk (Below.refl w.heap.size w)
 have H : ((types_Compare.f a0_0 a0_1 l0_2 a1_0 a1_1 l1_2).bind fun t130 => (some (t130 == 0))) = some r := h
 clear h
 replace H := Option.bind_eq_some_iff.mp H
 obtain ⟨t130, A30, H⟩ := H
 replace H : (some (t130 == 0)) = some r := H
 have A3 := Aside0.mk A30
 clear A30
 obtain rfl := Option.some.inj H
 go_enter Try.func52, Try.ntmps52
 go_wp2_with (first | ((with_reducible refine gate_dst (N := 2) rfl ?_); refine box_event ?hg (N := 2) ?hd (cs := #[.bool a0_0, .string a0_1, .slice A0_2 l0_2.length c0_2]) (t := 24) ?hr ?_; (case hd => rfl); (case hg => rfl); (case hr => first | (go_simp; done) | (go_simp; rfl)); intro gb128 hg w4 hbox hb; have n0_ := Aside0.mk (below_step bel_ hb); have n1_ := Aside0.mk (hbox); have n2_ := Aside0.mk ((by rw [hg]; exact (below_size bel_) : w.heap.size ≤ gb128)); have n3_ := Aside0.mk ((by rw [hg]; exact (below_size bel_) : w.heap.size ≤ gb128)); clear HB; have HB := n0_; have BK128 := n1_; have GW128 := n2_; have GE128 := n3_; clear n0_ n1_ n2_ n3_; clear hb hbox hg) | ((with_reducible refine gate_dst (N := 3) rfl ?_); refine box_event ?hg (N := 3) ?hd (cs := #[.bool a1_0, .string a1_1, .slice A1_2 l1_2.length c1_2]) (t := 24) ?hr ?_; (case hd => rfl); (case hg => rfl); (case hr => first | (go_simp; done) | (go_simp; rfl)); intro gb129 hg w5 hbox hb; have n0_ := Aside0.mk (blk_below (g := gb128) (o := .cells #[.bool a0_0, .string a0_1, .slice A0_2 l0_2.length c0_2] 24 (0, 0)) (bk_ BK128) hb); have n1_ := Aside0.mk (below_step bel_ hb); have n2_ := Aside0.mk (hbox); have n3_ := Aside0.mk ((by rw [hg]; exact (below_size bel_) : w.heap.size ≤ gb129)); have n4_ := Aside0.mk ((by rw [hg]; exact (below_size bel_) : w.heap.size ≤ gb129)); have n5_ := Aside0.mk ((by rw [hg]; exact Nat.ne_of_lt (blk_lt (g := gb128) (o := .cells #[.bool a0_0, .string a0_1, .slice A0_2 l0_2.length c0_2] 24 (0, 0)) (bk_ BK128)) : gb128 ≠ gb129)); have n6_ := Aside0.mk ((by rw [hg]; exact Nat.ne_of_gt (blk_lt (g := gb128) (o := .cells #[.bool a0_0, .string a0_1, .slice A0_2 l0_2.length c0_2] 24 (0, 0)) (bk_ BK128)) : gb129 ≠ gb128)); clear BK128; clear HB; have BK128 := n0_; have HB := n1_; have BK129 := n2_; have GW129 := n3_; have GE129 := n4_; have NB128_129 := n5_; have NB129_128 := n6_; clear n0_ n1_ n2_ n3_ n4_ n5_ n6_; clear hb hbox hg; have hnb6 := NB128_129.out; have hnc6 := NB129_128.out; have hcz7_0 : w5.cell? ⟨gb128, 0, none⟩ = some (.bool a0_0) := (blk_cell BK128.out 0).trans rfl; have hcz7_1 : w5.cell? ⟨gb128, 1, none⟩ = some (.string a0_1) := (blk_cell BK128.out 1).trans rfl; have hcz7_2 : w5.cell? ⟨gb128, 2, none⟩ = some (.slice A0_2 l0_2.length c0_2) := (blk_cell BK128.out 2).trans rfl; have hfz7_0 := blk_frozen BK128.out 0; have hfz7_1 := blk_frozen BK128.out 1; have hfz7_2 := blk_frozen BK128.out 2; have hcz8_0 : w5.cell? ⟨gb129, 0, none⟩ = some (.bool a1_0) := (blk_cell BK129.out 0).trans rfl; have hcz8_1 : w5.cell? ⟨gb129, 1, none⟩ = some (.string a1_1) := (blk_cell BK129.out 1).trans rfl; have hcz8_2 : w5.cell? ⟨gb129, 2, none⟩ = some (.slice A1_2 l1_2.length c1_2) := (blk_cell BK129.out 2).trans rfl; have hfz8_0 := blk_frozen BK129.out 0; have hfz8_1 := blk_frozen BK129.out 1; have hfz8_2 := blk_frozen BK129.out 2) | ((with_reducible refine gate_callee (f := 94) rfl ?_); refine goesL_ (some 7) rfl rfl Try.func94 (by kernel_rfl) rfl #[.agg #[.bool a0_0, .string a0_1, .slice A0_2 l0_2.length c0_2], .agg #[.bool a1_0, .string a1_1, .slice A1_2 l1_2.length c1_2]] rfl (by (try simp only [List.map_toArray, List.map_cons, List.map_nil]); first | done | rfl | (simp only [List.length_drop, List.length_take]; rfl)) ?_; (with_reducible refine (types_Compare.calls a0_0 a0_1 _ _ l0_2 a1_0 a1_1 _ _ l1_2 t130 _ ?side1 ?side2 ?side3 ?side4 A3.out).mono ?_); (case side1 => repeat (first | exact (Kd.C_below HR0_2.out HB.out) | (with_reducible refine Kd.C_alloc ?_ _) | (with_reducible refine Kd.C_drewN ?_ _) | (with_reducible refine Kd.C_drew ?_))); (case side2 => exact HC0_2.out); (case side3 => repeat (first | exact (Kd.C_below HR1_2.out HB.out) | (with_reducible refine Kd.C_alloc ?_ _) | (with_reducible refine Kd.C_drewN ?_ _) | (with_reducible refine Kd.C_drew ?_))); (case side4 => exact HC1_2.out); rintro e w9 ⟨rfl, hb⟩; refine ⟨_, rfl, ?_⟩; have n0_ := Aside0.mk (blk_below (g := gb128) (o := .cells #[.bool a0_0, .string a0_1, .slice A0_2 l0_2.length c0_2] 24 (0, 0)) (bk_ BK128) hb); have n1_ := Aside0.mk (blk_below (g := gb129) (o := .cells #[.bool a1_0, .string a1_1, .slice A1_2 l1_2.length c1_2] 24 (0, 0)) (bk_ BK129) hb); have n2_ := Aside0.mk (below_step bel_ hb); clear BK128; clear BK129; clear HB; have BK128 := n0_; have BK129 := n1_; have HB := n2_; clear n0_ n1_ n2_; (try clear hb); (try clear hb2); (try clear hk); (try clear hi)))
 go_ret
 exact ⟨by first | rfl | (simp [errW_none, errW_some] <;> rfl) | (simp [*, errW_none, errW_some] <;> rfl), bel_⟩

end Go.Proofs.Ytecplbgdalchdaa.Q
-- written by a program of this session (wip/tools/myprint.py) out of the translation
namespace Go.Proofs.Ytecplbgdalchdaa.Q
open Go.RowKit Go.Proofs.YtecplbgdalchdaaW.PrintWords Go.Proofs.YtecplbgdalchdaaW.PrintLast Go.Proofs.YtecplbgdalchdaaW.PrintMore
attribute [local go_sem] max2_int min2_int max_two min_two max_three min_three max_four min_four   -- for this text's walks alone
set_option linter.unusedVariables false
set_option linter.unusedSimpArgs false

/-! ### signature_sameConst: function 154 -/
def signature_sameConst.f (a0_0 : ByteArray) (a0_1 : Bool) (a0_2 : ByteArray) (l0_3 : List (S24)) (a1_0 : ByteArray) (a1_1 : Bool) (a1_2 : ByteArray) (l1_3 : List (S24)) : Option (Bool) := if a0_0.toList = a1_0.toList then ((types_Same.f a0_1 a0_2 l0_3 a1_1 a1_2 l1_3).bind fun t1073 => (some t1073)) else (some false)
set_option maxHeartbeats 8000000 in
set_option maxRecDepth 100000 in
theorem signature_sameConst.calls (a0_0 : ByteArray) (a0_1 : Bool) (a0_2 : ByteArray) (A0_3 : Option Addr) (c0_3 : Nat) (l0_3 : List (S24)) (a1_0 : ByteArray) (a1_1 : Bool) (a1_2 : ByteArray) (A1_3 : Option Addr) (c1_3 : Nat) (l1_3 : List (S24)) (r : Bool) (w : World) (hr0_3 : Kd.C k24 w A0_3 l0_3.length l0_3) (hc0_3 : l0_3.length ≤ c0_3) (hr1_3 : Kd.C k24 w A1_3 l1_3.length l1_3) (hc1_3 : l1_3.length ≤ c1_3) (h : signature_sameConst.f a0_0 a0_1 a0_2 l0_3 a1_0 a1_1 a1_2 l1_3 = some r) :
 Calls Try.prog 154 #[.agg #[.string a0_0, .bool a0_1, .string a0_2, .slice A0_3 l0_3.length c0_3], .agg #[.string a1_0, .bool a1_1, .string a1_2, .slice A1_3 l1_3.length c1_3]] w fun e w' => e = .returned (.bool r) ∧ Below w.heap.size w w' := by
 have hu108 := Try.underlying108
 have hu24 := Try.underlying24
 have HR0_3 := Aside0.mk hr0_3
 have HC0_3 := Aside0.mk hc0_3
 clear hr0_3 hc0_3
 have HR1_3 := Aside0.mk hr1_3
 have HC1_3 := Aside0.mk hc1_3
 clear hr1_3 hc1_3
 have HB := Aside0.mk (Below.refl w.heap.size w)
 have H : (if a0_0.toList = a1_0.toList then ((types_Same.f a0_1 a0_2 l0_3 a1_1 a1_2 l1_3).bind fun t1073 => (some t1073)) else (some false)) = some r := h
 clear h
 by_cases c3 : a0_0.toList = a1_0.toList
 ·rw [if_pos c3] at H
  have c3b0 : (a0_0.toList == a1_0.toList) = true := beq_iff_eq.mpr c3
  have c3b1 : (a0_0.toList != a1_0.toList) = false := bne_eq_false_iff_eq.mpr c3
  clear c3
  replace H := Option.bind_eq_some_iff.mp H
  obtain ⟨t1073, A40, H⟩ := H
  replace H : (some t1073) = some r := H
  have A4 := Aside0.mk A40
  clear A40
  obtain rfl := Option.some.inj H
  go_enter Try.func154, Try.ntmps154
  go_wp2_with (first | ((with_reducible refine gate_dst (N := 2) rfl ?_); refine box_event ?hg (N := 2) ?hd (cs := #[.string a0_0, .bool a0_1, .string a0_2, .slice A0_3 l0_3.length c0_3]) (t := 108) ?hr ?_; (case hd => rfl); (case hg => rfl); (case hr => first | (go_simp; done) | (go_simp; rfl)); intro gb1071 hg w5 hbox hb; have n0_ := Aside0.mk (below_step bel_ hb); have n1_ := Aside0.mk (hbox); have n2_ := Aside0.mk ((by rw [hg]; exact (below_size bel_) : w.heap.size ≤ gb1071)); have n3_ := Aside0.mk ((by rw [hg]; exact (below_size bel_) : w.heap.size ≤ gb1071)); clear HB; have HB := n0_; have BK1071 := n1_; have GW1071 := n2_; have GE1071 := n3_; clear n0_ n1_ n2_ n3_; clear hb hbox hg) | ((with_reducible refine gate_dst (N := 3) rfl ?_); refine box_event ?hg (N := 3) ?hd (cs := #[.string a1_0, .bool a1_1, .string a1_2, .slice A1_3 l1_3.length c1_3]) (t := 108) ?hr ?_; (case hd => rfl); (case hg => rfl); (case hr => first | (go_simp; done) | (go_simp; rfl)); intro gb1072 hg w6 hbox hb; have n0_ := Aside0.mk (blk_below (g := gb1071) (o := .cells #[.string a0_0, .bool a0_1, .string a0_2, .slice A0_3 l0_3.length c0_3] 108 (0, 0)) (bk_ BK1071) hb); have n1_ := Aside0.mk (below_step bel_ hb); have n2_ := Aside0.mk (hbox); have n3_ := Aside0.mk ((by rw [hg]; exact (below_size bel_) : w.heap.size ≤ gb1072)); have n4_ := Aside0.mk ((by rw [hg]; exact (below_size bel_) : w.heap.size ≤ gb1072)); have n5_ := Aside0.mk ((by rw [hg]; exact Nat.ne_of_lt (blk_lt (g := gb1071) (o := .cells #[.string a0_0, .bool a0_1, .string a0_2, .slice A0_3 l0_3.length c0_3] 108 (0, 0)) (bk_ BK1071)) : gb1071 ≠ gb1072)); have n6_ := Aside0.mk ((by rw [hg]; exact Nat.ne_of_gt (blk_lt (g := gb1071) (o := .cells #[.string a0_0, .bool a0_1, .string a0_2, .slice A0_3 l0_3.length c0_3] 108 (0, 0)) (bk_ BK1071)) : gb1072 ≠ gb1071)); clear BK1071; clear HB; have BK1071 := n0_; have HB := n1_; have BK1072 := n2_; have GW1072 := n3_; have GE1072 := n4_; have NB1071_1072 := n5_; have NB1072_1071 := n6_; clear n0_ n1_ n2_ n3_ n4_ n5_ n6_; clear hb hbox hg; have hnb7 := NB1071_1072.out; have hnc7 := NB1072_1071.out; have hcz8_0 : w6.cell? ⟨gb1071, 0, none⟩ = some (.string a0_0) := (blk_cell BK1071.out 0).trans rfl; have hcz8_1 : w6.cell? ⟨gb1071, 1, none⟩ = some (.bool a0_1) := (blk_cell BK1071.out 1).trans rfl; have hcz8_2 : w6.cell? ⟨gb1071, 2, none⟩ = some (.string a0_2) := (blk_cell BK1071.out 2).trans rfl; have hcz8_3 : w6.cell? ⟨gb1071, 3, none⟩ = some (.slice A0_3 l0_3.length c0_3) := (blk_cell BK1071.out 3).trans rfl; have hfz8_0 := blk_frozen BK1071.out 0; have hfz8_1 := blk_frozen BK1071.out 1; have hfz8_2 := blk_frozen BK1071.out 2; have hfz8_3 := blk_frozen BK1071.out 3; have hcz9_0 : w6.cell? ⟨gb1072, 0, none⟩ = some (.string a1_0) := (blk_cell BK1072.out 0).trans rfl; have hcz9_1 : w6.cell? ⟨gb1072, 1, none⟩ = some (.bool a1_1) := (blk_cell BK1072.out 1).trans rfl; have hcz9_2 : w6.cell? ⟨gb1072, 2, none⟩ = some (.string a1_2) := (blk_cell BK1072.out 2).trans rfl; have hcz9_3 : w6.cell? ⟨gb1072, 3, none⟩ = some (.slice A1_3 l1_3.length c1_3) := (blk_cell BK1072.out 3).trans rfl; have hfz9_0 := blk_frozen BK1072.out 0; have hfz9_1 := blk_frozen BK1072.out 1; have hfz9_2 := blk_frozen BK1072.out 2; have hfz9_3 := blk_frozen BK1072.out 3) | (go_at_call 52; (with_reducible refine (types_Same.calls a0_1 a0_2 _ _ l0_3 a1_1 a1_2 _ _ l1_3 t1073 _ ?side1 ?side2 ?side3 ?side4 A4.out).mono ?_); (case side1 => repeat (first | exact (Kd.C_below HR0_3.out HB.out) | (with_reducible refine Kd.C_alloc ?_ _) | (with_reducible refine Kd.C_drewN ?_ _) | (with_reducible refine Kd.C_drew ?_))); (case side2 => exact HC0_3.out); (case side3 => repeat (first | exact (Kd.C_below HR1_3.out HB.out) | (with_reducible refine Kd.C_alloc ?_ _) | (with_reducible refine Kd.C_drewN ?_ _) | (with_reducible refine Kd.C_drew ?_))); (case side4 => exact HC1_3.out); rintro e w10 ⟨rfl, hb⟩; have n0_ := Aside0.mk (blk_below (g := gb1071) (o := .cells #[.string a0_0, .bool a0_1, .string a0_2, .slice A0_3 l0_3.length c0_3] 108 (0, 0)) (bk_ BK1071) hb); have n1_ := Aside0.mk (blk_below (g := gb1072) (o := .cells #[.string a1_0, .bool a1_1, .string a1_2, .slice A1_3 l1_3.length c1_3] 108 (0, 0)) (bk_ BK1072) hb); have n2_ := Aside0.mk (below_step bel_ hb); clear BK1071; clear BK1072; clear HB; have BK1071 := n0_; have BK1072 := n1_; have HB := n2_; clear n0_ n1_ n2_; (try clear hb); (try clear hb2); (try clear hk); (try clear hi)))
  go_ret
  exact ⟨by first | rfl | (simp [errW_none, errW_some] <;> rfl) | (simp [*, errW_none, errW_some] <;> rfl), bel_⟩
 ·rw [if_neg c3] at H
  have c3b0 : (a0_0.toList == a1_0.toList) = false := beq_eq_false_iff_ne.mpr c3
  have c3b1 : (a0_0.toList != a1_0.toList) = true := bne_iff_ne.mpr c3
  obtain rfl := Option.some.inj H
  go_enter Try.func154, Try.ntmps154
  go_wp2_with (first | ((with_reducible refine gate_dst (N := 2) rfl ?_); refine box_event ?hg (N := 2) ?hd (cs := #[.string a0_0, .bool a0_1, .string a0_2, .slice A0_3 l0_3.length c0_3]) (t := 108) ?hr ?_; (case hd => rfl); (case hg => rfl); (case hr => first | (go_simp; done) | (go_simp; rfl)); intro gb1071 hg w11 hbox hb; have n0_ := Aside0.mk (below_step bel_ hb); have n1_ := Aside0.mk (hbox); have n2_ := Aside0.mk ((by rw [hg]; exact (below_size bel_) : w.heap.size ≤ gb1071)); have n3_ := Aside0.mk ((by rw [hg]; exact (below_size bel_) : w.heap.size ≤ gb1071)); clear HB; have HB := n0_; have BK1071 := n1_; have GW1071 := n2_; have GE1071 := n3_; clear n0_ n1_ n2_ n3_; clear hb hbox hg) | ((with_reducible refine gate_dst (N := 3) rfl ?_); refine box_event ?hg (N := 3) ?hd (cs := #[.string a1_0, .bool a1_1, .string a1_2, .slice A1_3 l1_3.length c1_3]) (t := 108) ?hr ?_; (case hd => rfl); (case hg => rfl); (case hr => first | (go_simp; done) | (go_simp; rfl)); intro gb1072 hg w12 hbox hb; have n0_ := Aside0.mk (blk_below (g := gb1071) (o := .cells #[.string a0_0, .bool a0_1, .string a0_2, .slice A0_3 l0_3.length c0_3] 108 (0, 0)) (bk_ BK1071) hb); have n1_ := Aside0.mk (below_step bel_ hb); have n2_ := Aside0.mk (hbox); have n3_ := Aside0.mk ((by rw [hg]; exact (below_size bel_) : w.heap.size ≤ gb1072)); have n4_ := Aside0.mk ((by rw [hg]; exact (below_size bel_) : w.heap.size ≤ gb1072)); have n5_ := Aside0.mk ((by rw [hg]; exact Nat.ne_of_lt (blk_lt (g := gb1071) (o := .cells #[.string a0_0, .bool a0_1, .string a0_2, .slice A0_3 l0_3.length c0_3] 108 (0, 0)) (bk_ BK1071)) : gb1071 ≠ gb1072)); have n6_ := Aside0.mk ((by rw [hg]; exact Nat.ne_of_gt (blk_lt (g := gb1071) (o := .cells #[.string a0_0, .bool a0_1, .string a0_2, .slice A0_3 l0_3.length c0_3] 108 (0, 0)) (bk_ BK1071)) : gb1072 ≠ gb1071)); clear BK1071; clear HB; have BK1071 := n0_; have HB := n1_; have BK1072 := n2_; have GW1072 := n3_; have GE1072 := n4_; have NB1071_1072 := n5_; have NB1072_1071 := n6_; clear n0_ n1_ n2_ n3_ n4_ n5_ n6_; clear hb hbox hg; have hnb13 := NB1071_1072.out; have hnc13 := NB1072_1071.out; have hcz14_0 : w12.cell? ⟨gb1071, 0, none⟩ = some (.string a0_0) := (blk_cell BK1071.out 0).trans rfl; have hcz14_1 : w12.cell? ⟨gb1071, 1, none⟩ = some (.bool a0_1) := (blk_cell BK1071.out 1).trans rfl; have hcz14_2 : w12.cell? ⟨gb1071, 2, none⟩ = some (.string a0_2) := (blk_cell BK1071.out 2).trans rfl; have hcz14_3 : w12.cell? ⟨gb1071, 3, none⟩ = some (.slice A0_3 l0_3.length c0_3) := (blk_cell BK1071.out 3).trans rfl; have hfz14_0 := blk_frozen BK1071.out 0; have hfz14_1 := blk_frozen BK1071.out 1; have hfz14_2 := blk_frozen BK1071.out 2; have hfz14_3 := blk_frozen BK1071.out 3; have hcz15_0 : w12.cell? ⟨gb1072, 0, none⟩ = some (.string a1_0) := (blk_cell BK1072.out 0).trans rfl; have hcz15_1 : w12.cell? ⟨gb1072, 1, none⟩ = some (.bool a1_1) := (blk_cell BK1072.out 1).trans rfl; have hcz15_2 : w12.cell? ⟨gb1072, 2, none⟩ = some (.string a1_2) := (blk_cell BK1072.out 2).trans rfl; have hcz15_3 : w12.cell? ⟨gb1072, 3, none⟩ = some (.slice A1_3 l1_3.length c1_3) := (blk_cell BK1072.out 3).trans rfl; have hfz15_0 := blk_frozen BK1072.out 0; have hfz15_1 := blk_frozen BK1072.out 1; have hfz15_2 := blk_frozen BK1072.out 2; have hfz15_3 := blk_frozen BK1072.out 3))
  go_ret
  exact ⟨by first | rfl | (simp [errW_none, errW_some] <;> rfl) | (simp [*, errW_none, errW_some] <;> rfl), bel_⟩

end Go.Proofs.Ytecplbgdalchdaa.Q
-- written by a program of this session (wip/tools/myprint.py) out of the translation
namespace Go.Proofs.Ytecplbgdalchdaa.Q
open Go.RowKit Go.Proofs.YtecplbgdalchdaaW.PrintWords Go.Proofs.YtecplbgdalchdaaW.PrintLast Go.Proofs.YtecplbgdalchdaaW.PrintMore
attribute [local go_sem] max2_int min2_int max_two min_two max_three min_three max_four min_four   -- for this text's walks alone
set_option linter.unusedVariables false
set_option linter.unusedSimpArgs false

/-! ### types_Fun: function 42 -/
def types_Fun.f (a0_0 : Bool) (a0_1 : ByteArray) (l0_2 : List (S24)) (a1_0 : Bool) (a1_1 : ByteArray) (l1_2 : List (S24)) : Option (Bool × ByteArray × (List (S24))) := (types_Twin.f a0_0 a0_1 l0_2).bind fun bt200 => ((types_Twin.f a1_0 a1_1 l1_2).bind fun bt205 => (some (false, (⟨#[102, 117, 110]⟩ : ByteArray), (([(⟨bt200.1, bt200.2.1, bt200.2.2⟩ : S24), (⟨bt205.1, bt205.2.1, bt205.2.2⟩ : S24)] : List (S24))))))
set_option maxHeartbeats 8000000 in
set_option maxRecDepth 100000 in
theorem types_Fun.calls (a0_0 : Bool) (a0_1 : ByteArray) (A0_2 : Option Addr) (c0_2 : Nat) (l0_2 : List (S24)) (a1_0 : Bool) (a1_1 : ByteArray) (A1_2 : Option Addr) (c1_2 : Nat) (l1_2 : List (S24)) (r1 : Bool) (r2 : ByteArray) (r3 : List (S24)) (w : World) (hr0_2 : Kd.C k24 w A0_2 l0_2.length l0_2) (hc0_2 : l0_2.length ≤ c0_2) (hr1_2 : Kd.C k24 w A1_2 l1_2.length l1_2) (hc1_2 : l1_2.length ≤ c1_2) (h : types_Fun.f a0_0 a0_1 l0_2 a1_0 a1_1 l1_2 = some (r1, r2, r3)) :
 Calls Try.prog 42 #[.agg #[.bool a0_0, .string a0_1, .slice A0_2 l0_2.length c0_2], .agg #[.bool a1_0, .string a1_1, .slice A1_2 l1_2.length c1_2]] w fun e w' => ∃ v2_ : Value, e = .returned (.agg #[.bool r1, .string r2, v2_]) ∧ Kd.N k24 24 w' w.heap.size (fun k_ => (w.heap.size ≤ k_)) v2_ r3 ∧ Below w.heap.size w w' := by
 have hu24 := Try.underlying24
 have HR0_2 := Aside0.mk hr0_2
 have HC0_2 := Aside0.mk hc0_2
 clear hr0_2 hc0_2
 have HR1_2 := Aside0.mk hr1_2
 have HC1_2 := Aside0.mk hc1_2
 clear hr1_2 hc1_2
 have HB := Aside0.mk (Below.refl w.heap.size w)
 have H : ((types_Twin.f a0_0 a0_1 l0_2).bind fun bt200 => ((types_Twin.f a1_0 a1_1 l1_2).bind fun bt205 => (some (false, (⟨#[102, 117, 110]⟩ : ByteArray), (([(⟨bt200.1, bt200.2.1, bt200.2.2⟩ : S24), (⟨bt205.1, bt205.2.1, bt205.2.2⟩ : S24)] : List (S24))))))) = some (r1, r2, r3) := h
 clear h
 replace H := Option.bind_eq_some_iff.mp H
 obtain ⟨⟨t200, t201, t202⟩, A30, H⟩ := H
 replace H : ((types_Twin.f a1_0 a1_1 l1_2).bind fun bt205 => (some (false, (⟨#[102, 117, 110]⟩ : ByteArray), (([(⟨t200, t201, t202⟩ : S24), (⟨bt205.1, bt205.2.1, bt205.2.2⟩ : S24)] : List (S24)))))) = some (r1, r2, r3) := H
 have A3 := Aside0.mk A30
 clear A30
 replace H := Option.bind_eq_some_iff.mp H
 obtain ⟨⟨t205, t206, t207⟩, A40, H⟩ := H
 replace H : (some (false, (⟨#[102, 117, 110]⟩ : ByteArray), (([(⟨t200, t201, t202⟩ : S24), (⟨t205, t206, t207⟩ : S24)] : List (S24))))) = some (r1, r2, r3) := H
 have A4 := Aside0.mk A40
 clear A40
 obtain ⟨y210, hy210⟩ : ∃ y_ : List (S24), y_ = (([(⟨t200, t201, t202⟩ : S24), (⟨t205, t206, t207⟩ : S24)] : List (S24))) := ⟨_, rfl⟩
 replace H : (some (false, (⟨#[102, 117, 110]⟩ : ByteArray), y210)) = some (r1, r2, r3) := by first | (rw [hy210]; with_reducible exact H) | (have H2_ := (Option.bind_some _ _).symm.trans H; rw [hy210]; with_reducible exact H2_) | (have H2_ := (Option.bind_some _ _).symm.trans H; with_reducible exact H2_) | with_reducible exact H | (rw [hy210]; exact H) | exact H
 have Ny210 := Aside0.mk hy210
 clear hy210
 simp only [Option.some.injEq, Prod.mk.injEq] at H
 obtain ⟨rfl, rfl, rfl⟩ := H
 go_enter Try.func42, Try.ntmps42
 try go_wp2_with (first | ((with_reducible refine gate_dst (N := 2) rfl ?_); refine box_event ?hg (N := 2) ?hd (cs := #[.bool a0_0, .string a0_1, .slice A0_2 l0_2.length c0_2]) (t := 24) ?hr ?_; (case hd => rfl); (case hg => rfl); (case hr => first | (go_simp; done) | (go_simp; rfl)); intro gb197 hg w5 hbox hb; have n0_ := Aside0.mk (below_step bel_ hb); have n1_ := Aside0.mk (hbox); have n2_ := Aside0.mk ((by rw [hg]; exact (below_size bel_) : w.heap.size ≤ gb197)); have n3_ := Aside0.mk ((by rw [hg]; exact (below_size bel_) : w.heap.size ≤ gb197)); clear HB; have HB := n0_; have BK197 := n1_; have GW197 := n2_; have GE197 := n3_; clear n0_ n1_ n2_ n3_; clear hb hbox hg) | ((with_reducible refine gate_dst (N := 3) rfl ?_); refine box_event ?hg (N := 3) ?hd (cs := #[.bool a1_0, .string a1_1, .slice A1_2 l1_2.length c1_2]) (t := 24) ?hr ?_; (case hd => rfl); (case hg => rfl); (case hr => first | (go_simp; done) | (go_simp; rfl)); intro gb198 hg w6 hbox hb; have n0_ := Aside0.mk (blk_below (g := gb197) (o := .cells #[.bool a0_0, .string a0_1, .slice A0_2 l0_2.length c0_2] 24 (0, 0)) (bk_ BK197) hb); have n1_ := Aside0.mk (below_step bel_ hb); have n2_ := Aside0.mk (hbox); have n3_ := Aside0.mk ((by rw [hg]; exact (below_size bel_) : w.heap.size ≤ gb198)); have n4_ := Aside0.mk ((by rw [hg]; exact (below_size bel_) : w.heap.size ≤ gb198)); have n5_ := Aside0.mk ((by rw [hg]; exact Nat.ne_of_lt (blk_lt (g := gb197) (o := .cells #[.bool a0_0, .string a0_1, .slice A0_2 l0_2.length c0_2] 24 (0, 0)) (bk_ BK197)) : gb197 ≠ gb198)); have n6_ := Aside0.mk ((by rw [hg]; exact Nat.ne_of_gt (blk_lt (g := gb197) (o := .cells #[.bool a0_0, .string a0_1, .slice A0_2 l0_2.length c0_2] 24 (0, 0)) (bk_ BK197)) : gb198 ≠ gb197)); clear BK197; clear HB; have BK197 := n0_; have HB := n1_; have BK198 := n2_; have GW198 := n3_; have GE198 := n4_; have NB197_198 := n5_; have NB198_197 := n6_; clear n0_ n1_ n2_ n3_ n4_ n5_ n6_; clear hb hbox hg) | ((with_reducible refine gate_dst (N := 4) rfl ?_); refine box_event ?hg (N := 4) ?hd (cs := #[.bool false, .string (⟨#[]⟩ : ByteArray), .slice none 0 0]) (t := 24) ?hr ?_; (case hd => rfl); (case hg => rfl); (case hr => first | (go_simp; done) | (go_simp; rfl)); intro gb199 hg w7 hbox hb; have n0_ := Aside0.mk (blk_below (g := gb197) (o := .cells #[.bool a0_0, .string a0_1, .slice A0_2 l0_2.length c0_2] 24 (0, 0)) (bk_ BK197) hb); have n1_ := Aside0.mk (blk_below (g := gb198) (o := .cells #[.bool a1_0, .string a1_1, .slice A1_2 l1_2.length c1_2] 24 (0, 0)) (bk_ BK198) hb); have n2_ := Aside0.mk (below_step bel_ hb); have n3_ := Aside0.mk (hbox); have n4_ := Aside0.mk ((by rw [hg]; exact (below_size bel_) : w.heap.size ≤ gb199)); have n5_ := Aside0.mk ((by rw [hg]; exact (below_size bel_) : w.heap.size ≤ gb199)); have n6_ := Aside0.mk ((by rw [hg]; exact Nat.ne_of_lt (blk_lt (g := gb197) (o := .cells #[.bool a0_0, .string a0_1, .slice A0_2 l0_2.length c0_2] 24 (0, 0)) (bk_ BK197)) : gb197 ≠ gb199)); have n7_ := Aside0.mk ((by rw [hg]; exact Nat.ne_of_gt (blk_lt (g := gb197) (o := .cells #[.bool a0_0, .string a0_1, .slice A0_2 l0_2.length c0_2] 24 (0, 0)) (bk_ BK197)) : gb199 ≠ gb197)); have n8_ := Aside0.mk ((by rw [hg]; exact Nat.ne_of_lt (blk_lt (g := gb198) (o := .cells #[.bool a1_0, .string a1_1, .slice A1_2 l1_2.length c1_2] 24 (0, 0)) (bk_ BK198)) : gb198 ≠ gb199)); have n9_ := Aside0.mk ((by rw [hg]; exact Nat.ne_of_gt (blk_lt (g := gb198) (o := .cells #[.bool a1_0, .string a1_1, .slice A1_2 l1_2.length c1_2] 24 (0, 0)) (bk_ BK198)) : gb199 ≠ gb198)); clear BK197; clear BK198; clear HB; have BK197 := n0_; have BK198 := n1_; have HB := n2_; have BK199 := n3_; have GW199 := n4_; have GE199 := n5_; have NB197_199 := n6_; have NB199_197 := n7_; have NB198_199 := n8_; have NB199_198 := n9_; clear n0_ n1_ n2_ n3_ n4_ n5_ n6_ n7_ n8_ n9_; clear hb hbox hg))
 have n0_ := Aside0.mk (blk_drew BK197.out)
 have n1_ := Aside0.mk (blk_drew BK198.out)
 have n2_ := Aside0.mk (blk_drew BK199.out)
 have n3_ := Aside0.mk (below_drew1 HB.out)
 clear BK197
 clear BK198
 clear BK199
 clear HB
 have BK197 := n0_
 have BK198 := n1_
 have BK199 := n2_
 have HB := n3_
 clear n0_ n1_ n2_ n3_
 refine start_ (n := 7) (S := fun w' => w'.cell? ⟨gb197, 0, none⟩ = some (.bool a0_0) ∧ w'.cell? ⟨gb197, 1, none⟩ = some (.string a0_1) ∧ w'.cell? ⟨gb197, 2, none⟩ = some (.slice A0_2 l0_2.length c0_2) ∧ w'.cell? ⟨gb198, 0, none⟩ = some (.bool a1_0) ∧ w'.cell? ⟨gb198, 1, none⟩ = some (.string a1_1) ∧ w'.cell? ⟨gb198, 2, none⟩ = some (.slice A1_2 l1_2.length c1_2)) (ds := []) #[false, false, false, false, false, false, false] (by kernel_rfl) rfl rfl ⟨(blk_cell BK197.out 0).trans rfl, (blk_cell BK197.out 1).trans rfl, (blk_cell BK197.out 2).trans rfl, (blk_cell BK198.out 0).trans rfl, (blk_cell BK198.out 1).trans rfl, (blk_cell BK198.out 2).trans rfl⟩ (fun hHeld => ?_)
 generalize w7.drew = w8 at BK197 BK198 BK199 HB hHeld ⊢
 refine take_ (i := 0) (N := some 5) (v := ?_) (a' := ?_) #[true, false, false, false, false, false, false] rfl rfl (by kernel_rfl) (fun _ _ _ h => h) (Or.inl ⟨by rfl, ?_⟩) hHeld ?_ ?_
 rotate_left
 ·rintro w' ⟨s0, s1, s2, s3, s4, s5⟩
  go_simp
  with_reducible rfl
 rotate_left
 ·simp only [Act.put, List.setIfInBounds_toArray, List.set_cons_zero, List.set_cons_succ, i64_w, i32_w]
  rfl
 refine take_ (i := 2) (N := some 7) (v := ?_) (a' := ?_) #[true, false, true, false, false, false, false] rfl rfl (by kernel_rfl) (fun _ _ _ h => h) (Or.inl ⟨by rfl, ?_⟩) hHeld ?_ ?_
 rotate_left
 ·rintro w' ⟨s0, s1, s2, s3, s4, s5⟩
  go_simp
  with_reducible rfl
 rotate_left
 ·simp only [Act.put, List.setIfInBounds_toArray, List.set_cons_zero, List.set_cons_succ, i64_w, i32_w]
  rfl
 refine one_ (i := 1) (N := some 6) #[true, true, true, false, false, false, false] rfl rfl (by kernel_rfl) (by decide) (fun K hK => ?_)
 refine goes_ Try.func99 (by kernel_rfl) rfl #[.agg #[.bool a0_0, .string a0_1, .slice A0_2 l0_2.length c0_2]] (by rfl) rfl rfl (by (try simp only [List.map_toArray, List.map_cons, List.map_nil]); first | done | rfl | (simp only [List.length_drop, List.length_take]; rfl)) ?_
 with_reducible refine (types_Twin.calls a0_0 a0_1 _ _ l0_2 t200 t201 t202 _ ?side1 ?side2 A3.out).mono ?_
 (case side1 => repeat (first | exact (Kd.C_below HR0_2.out HB.out) | (with_reducible refine Kd.C_alloc ?_ _) | (with_reducible refine Kd.C_drewN ?_ _) | (with_reducible refine Kd.C_drew ?_)))
 (case side2 => exact HC0_2.out)
 rintro e w9 ⟨v203, rfl, ho0, hb⟩
 refine ⟨_, rfl, ?_⟩
 have n0_ := Aside0.mk (Kd.V_lower (Kd.V_mono (ok' := fun k_ => (w.heap.size ≤ k_) ∧ k_ ≠ gb197 ∧ k_ ≠ gb198 ∧ k_ ≠ gb199) ho0 (fun k_ hk_ => ⟨(Nat.le_trans (below_size bel_) hk_), (Kd.freshB (g := gb197) (o := .cells #[.bool a0_0, .string a0_1, .slice A0_2 l0_2.length c0_2] 24 (0, 0)) (bk_ BK197) k_ hk_), (Kd.freshB (g := gb198) (o := .cells #[.bool a1_0, .string a1_1, .slice A1_2 l1_2.length c1_2] 24 (0, 0)) (bk_ BK198) k_ hk_), (Kd.freshB (g := gb199) (o := .cells #[.bool false, .string (⟨#[]⟩ : ByteArray), .slice none 0 0] 24 (0, 0)) (bk_ BK199) k_ hk_)⟩)) (below_size bel_))
 have n1_ := Aside0.mk (blk_below (g := gb197) (o := .cells #[.bool a0_0, .string a0_1, .slice A0_2 l0_2.length c0_2] 24 (0, 0)) (bk_ BK197) hb)
 have n2_ := Aside0.mk (blk_below (g := gb198) (o := .cells #[.bool a1_0, .string a1_1, .slice A1_2 l1_2.length c1_2] 24 (0, 0)) (bk_ BK198) hb)
 have n3_ := Aside0.mk (blk_below (g := gb199) (o := .cells #[.bool false, .string (⟨#[]⟩ : ByteArray), .slice none 0 0] 24 (0, 0)) (bk_ BK199) hb)
 have n4_ := Aside0.mk (below_step bel_ hb)
 clear BK197
 clear BK198
 clear BK199
 clear HB
 have HO204 := n0_
 have BK197 := n1_
 have BK198 := n2_
 have BK199 := n3_
 have HB := n4_
 clear n0_ n1_ n2_ n3_ n4_
 (try clear hb)
 (try clear hb2)
 (try clear hk)
 (try clear hi)
 (try clear ho0)
 refine hK.out _ _ ⟨(blk_cell BK197.out 0).trans rfl, (blk_cell BK197.out 1).trans rfl, (blk_cell BK197.out 2).trans rfl, (blk_cell BK198.out 0).trans rfl, (blk_cell BK198.out 1).trans rfl, (blk_cell BK198.out 2).trans rfl⟩ (fun hHeld => ?_)
 clear hK K
 refine norm_ (a' := ?_) ?_ ?_
 rotate_left
 ·show Act.put _ (some 6) _ = _
  simp only [Act.put, List.setIfInBounds_toArray, List.set_cons_zero, List.set_cons_succ, i64_w, i32_w]
  rfl
 refine one_ (i := 3) (N := some 8) #[true, true, true, true, false, false, false] rfl rfl (by kernel_rfl) (by decide) (fun K hK => ?_)
 refine goes_ Try.func99 (by kernel_rfl) rfl #[.agg #[.bool a1_0, .string a1_1, .slice A1_2 l1_2.length c1_2]] (by rfl) rfl rfl (by (try simp only [List.map_toArray, List.map_cons, List.map_nil]); first | done | rfl | (simp only [List.length_drop, List.length_take]; rfl)) ?_
 with_reducible refine (types_Twin.calls a1_0 a1_1 _ _ l1_2 t205 t206 t207 _ ?side1 ?side2 A4.out).mono ?_
 (case side1 => repeat (first | exact (Kd.C_below HR1_2.out HB.out) | (with_reducible refine Kd.C_alloc ?_ _) | (with_reducible refine Kd.C_drewN ?_ _) | (with_reducible refine Kd.C_drew ?_)))
 (case side2 => exact HC1_2.out)
 rintro e w10 ⟨v208, rfl, ho0, hb⟩
 refine ⟨_, rfl, ?_⟩
 have n0_ := Aside0.mk (Kd.V_below (by (with_reducible repeat (first | apply Kd.V_alloc | apply Kd.V_drewN | apply Kd.V_drew)); exact HO204.out) hb)
 have n1_ := Aside0.mk (Kd.V_lower (Kd.V_mono (ok' := fun k_ => (w.heap.size ≤ k_) ∧ k_ ≠ gb197 ∧ k_ ≠ gb198 ∧ k_ ≠ gb199) ho0 (fun k_ hk_ => ⟨(Nat.le_trans (below_size bel_) hk_), (Kd.freshB (g := gb197) (o := .cells #[.bool a0_0, .string a0_1, .slice A0_2 l0_2.length c0_2] 24 (0, 0)) (bk_ BK197) k_ hk_), (Kd.freshB (g := gb198) (o := .cells #[.bool a1_0, .string a1_1, .slice A1_2 l1_2.length c1_2] 24 (0, 0)) (bk_ BK198) k_ hk_), (Kd.freshB (g := gb199) (o := .cells #[.bool false, .string (⟨#[]⟩ : ByteArray), .slice none 0 0] 24 (0, 0)) (bk_ BK199) k_ hk_)⟩)) (below_size bel_))
 have n2_ := Aside0.mk (blk_below (g := gb197) (o := .cells #[.bool a0_0, .string a0_1, .slice A0_2 l0_2.length c0_2] 24 (0, 0)) (bk_ BK197) hb)
 have n3_ := Aside0.mk (blk_below (g := gb198) (o := .cells #[.bool a1_0, .string a1_1, .slice A1_2 l1_2.length c1_2] 24 (0, 0)) (bk_ BK198) hb)
 have n4_ := Aside0.mk (blk_below (g := gb199) (o := .cells #[.bool false, .string (⟨#[]⟩ : ByteArray), .slice none 0 0] 24 (0, 0)) (bk_ BK199) hb)
 have n5_ := Aside0.mk (below_step bel_ hb)
 clear HO204
 clear BK197
 clear BK198
 clear BK199
 clear HB
 have HO204 := n0_
 have HO209 := n1_
 have BK197 := n2_
 have BK198 := n3_
 have BK199 := n4_
 have HB := n5_
 clear n0_ n1_ n2_ n3_ n4_ n5_
 (try clear hb)
 (try clear hb2)
 (try clear hk)
 (try clear hi)
 (try clear ho0)
 obtain ⟨Ao11, co11, eo11⟩ := Kd.V_slice HO204.out
 (first | subst eo11 | (injection eo11 with f1_ f2_ f3_; have f4_ := f1_.symm; have f5_ := f3_.symm; clear f1_ f2_ f3_; subst f4_; subst f5_))
 obtain ⟨Ao12, co12, eo12⟩ := Kd.V_slice HO209.out
 (first | subst eo12 | (injection eo12 with f1_ f2_ f3_; have f4_ := f1_.symm; have f5_ := f3_.symm; clear f1_ f2_ f3_; subst f4_; subst f5_))
 refine hK.out _ _ ⟨(blk_cell BK197.out 0).trans rfl, (blk_cell BK197.out 1).trans rfl, (blk_cell BK197.out 2).trans rfl, (blk_cell BK198.out 0).trans rfl, (blk_cell BK198.out 1).trans rfl, (blk_cell BK198.out 2).trans rfl⟩ (fun hHeld => ?_)
 clear hK K
 refine norm_ (a' := ?_) ?_ ?_
 rotate_left
 ·show Act.put _ (some 8) _ = _
  simp only [Act.put, List.setIfInBounds_toArray, List.set_cons_zero, List.set_cons_succ, i64_w, i32_w]
  rfl
 refine one_ (i := 4) (N := some 9) #[true, true, true, true, true, false, false] rfl rfl (by kernel_rfl) (by decide) (fun K hK => ?_)
 refine Kd.N_lit_step k24 _ 24 ?hg (N' := 9) ?hd (xs := ([(⟨t200, t201, t202⟩ : S24), (⟨t205, t206, t207⟩ : S24)] : List (S24))) (inner := [.bool t200, .string t201, .slice Ao11 t202.length co11, .bool t205, .string t206, .slice Ao12 t207.length co12]) (ok := (fun k_ => (w.heap.size ≤ k_) ∧ k_ ≠ gb197 ∧ k_ ≠ gb198 ∧ k_ ≠ gb199)) (okp := (fun k_ => (w.heap.size ≤ k_) ∧ k_ ≠ gb197 ∧ k_ ≠ gb198 ∧ k_ ≠ gb199)) ?hr ?hp (fun _ hk => hk) ((show ∀ k_, w10.heap.size ≤ k_ → (fun k_ => (w.heap.size ≤ k_) ∧ k_ ≠ gb197 ∧ k_ ≠ gb198 ∧ k_ ≠ gb199) k_ from fun k_ hk => ⟨(Nat.le_trans (below_size bel_) hk), Kd.freshB (g := gb197) (o := .cells #[.bool a0_0, .string a0_1, .slice A0_2 l0_2.length c0_2] 24 (0, 0)) (bk_ BK197) k_ hk, Kd.freshB (g := gb198) (o := .cells #[.bool a1_0, .string a1_1, .slice A1_2 l1_2.length c1_2] 24 (0, 0)) (bk_ BK198) k_ hk, Kd.freshB (g := gb199) (o := .cells #[.bool false, .string (⟨#[]⟩ : ByteArray), .slice none 0 0] 24 (0, 0)) (bk_ BK199) k_ hk⟩) _ (Nat.le_refl _)) (Below.refl _ _) (Nat.le_refl _) (by simp) ?_; (case hd => rfl); (case hg => rfl); (case hr => first | (go_simp; done) | (go_simp; rfl)); (case hp => exact (Reps.c3 (show Kd.FK k24 _ _ (⟨t200, t201, t202⟩ : S24) [.bool t200, .string t201, .slice Ao11 t202.length co11] from (k24_mkF _ _ (⟨t200, t201, t202⟩ : S24) (Kd.V_reads' (Kd.V_mono (ok' := (fun k_ => (w.heap.size ≤ k_) ∧ k_ ≠ gb197 ∧ k_ ≠ gb198 ∧ k_ ≠ gb199)) (HO204.out) (fun k_ hk => ⟨hk.1, ⟨hk.2.1, ⟨hk.2.2.1, hk.2.2.2⟩⟩⟩))).2.1 (Kd.V_F (Kd.V_mono (ok' := (fun k_ => (w.heap.size ≤ k_) ∧ k_ ≠ gb197 ∧ k_ ≠ gb198 ∧ k_ ≠ gb199)) (HO204.out) (fun k_ hk => ⟨hk.1, ⟨hk.2.1, ⟨hk.2.2.1, hk.2.2.2⟩⟩⟩))))) (Reps.c3 (show Kd.FK k24 _ _ (⟨t205, t206, t207⟩ : S24) [.bool t205, .string t206, .slice Ao12 t207.length co12] from (k24_mkF _ _ (⟨t205, t206, t207⟩ : S24) (Kd.V_reads' (Kd.V_mono (ok' := (fun k_ => (w.heap.size ≤ k_) ∧ k_ ≠ gb197 ∧ k_ ≠ gb198 ∧ k_ ≠ gb199)) (HO209.out) (fun k_ hk => ⟨hk.1, ⟨hk.2.1, ⟨hk.2.2.1, hk.2.2.2⟩⟩⟩))).2.1 (Kd.V_F (Kd.V_mono (ok' := (fun k_ => (w.heap.size ≤ k_) ∧ k_ ≠ gb197 ∧ k_ ≠ gb198 ∧ k_ ≠ gb199)) (HO209.out) (fun k_ hk => ⟨hk.1, ⟨hk.2.1, ⟨hk.2.2.1, hk.2.2.2⟩⟩⟩))))) (Reps.none _ _))))
 intro v211 w13 ho14 hb hg_ hnew_
 clear hg_ hnew_
 (first | rw [← Ny210.out] at ho14 | (simp only [Int.reduceToNat] at ho14; rw [← Ny210.out] at ho14))
 have n0_ := Aside0.mk (Kd.V_elder' (by (with_reducible repeat (first | apply Kd.V_alloc | apply Kd.V_drewN | apply Kd.V_drew)); exact HO204.out) (by first | exact Kd.N_base ho14 | exact Kd.R_base ho14) hb)
 have n1_ := Aside0.mk (Kd.V_elder' (by (with_reducible repeat (first | apply Kd.V_alloc | apply Kd.V_drewN | apply Kd.V_drew)); exact HO209.out) (by first | exact Kd.N_base ho14 | exact Kd.R_base ho14) hb)
 have n2_ := Aside0.mk (Kd.N_lower ho14 (below_size bel_))
 have n3_ := Aside0.mk (blk_below (g := gb197) (o := .cells #[.bool a0_0, .string a0_1, .slice A0_2 l0_2.length c0_2] 24 (0, 0)) (bk_ BK197) hb)
 have n4_ := Aside0.mk (blk_below (g := gb198) (o := .cells #[.bool a1_0, .string a1_1, .slice A1_2 l1_2.length c1_2] 24 (0, 0)) (bk_ BK198) hb)
 have n5_ := Aside0.mk (blk_below (g := gb199) (o := .cells #[.bool false, .string (⟨#[]⟩ : ByteArray), .slice none 0 0] 24 (0, 0)) (bk_ BK199) hb)
 have n6_ := Aside0.mk (below_step bel_ hb)
 clear HO204
 clear HO209
 clear BK197
 clear BK198
 clear BK199
 clear HB
 have HO204 := n0_
 have HO209 := n1_
 have HO212 := n2_
 have BK197 := n3_
 have BK198 := n4_
 have BK199 := n5_
 have HB := n6_
 clear n0_ n1_ n2_ n3_ n4_ n5_ n6_
 clear hb ho14
 obtain ⟨Ao15, co15, eo15⟩ := Kd.N_slice HO212.out
 (first | subst eo15 | (injection eo15 with f1_ f2_ f3_; have f4_ := f1_.symm; have f5_ := f3_.symm; clear f1_ f2_ f3_; subst f4_; subst f5_))
 refine hK.out _ _ ⟨(blk_cell BK197.out 0).trans rfl, (blk_cell BK197.out 1).trans rfl, (blk_cell BK197.out 2).trans rfl, (blk_cell BK198.out 0).trans rfl, (blk_cell BK198.out 1).trans rfl, (blk_cell BK198.out 2).trans rfl⟩ (fun hHeld => ?_)
 clear hK K
 refine norm_ (a' := ?_) ?_ ?_
 rotate_left
 ·show Act.put _ (some 9) _ = _
  simp only [Act.put, List.setIfInBounds_toArray, List.set_cons_zero, List.set_cons_succ, i64_w, i32_w]
  rfl
 refine pure_ (i := 5) (N := some 10) (v := ?_) (a' := ?_) #[true, true, true, true, true, true, false] rfl rfl (by kernel_rfl) (fun _ _ _ h => h) (Or.inl ⟨by rfl, ?_⟩) ?_ ?_
 rotate_left
 ·intro w'
  go_simp
  with_reducible rfl
 rotate_left
 ·simp only [Act.put, List.setIfInBounds_toArray, List.set_cons_zero, List.set_cons_succ, i64_w, i32_w]
  rfl
 refine one_ (i := 6) (N := none) #[true, true, true, true, true, true, true] rfl rfl (by kernel_rfl) (by decide) (fun K hK => ?_)
 have hs16 : w13.cell? ⟨gb199, 0, none⟩ = some (.bool false) := (blk_cell BK199.out 0).trans rfl
 have hfs16 := blk_frozen BK199.out 0
 have hns16_0 := NB197_199.out
 have hns16_1 := NB198_199.out
 have hms16_0 := NB199_197.out
 have hms16_1 := NB199_198.out
 have hs17 : w13.cell? ⟨gb199, 1, none⟩ = some (.string (⟨#[]⟩ : ByteArray)) := (blk_cell BK199.out 1).trans rfl
 have hfs17 := blk_frozen BK199.out 1
 have hns17_0 := NB197_199.out
 have hns17_1 := NB198_199.out
 have hms17_0 := NB199_197.out
 have hms17_1 := NB199_198.out
 have hs18 : w13.cell? ⟨gb199, 2, none⟩ = some (.slice none 0 0) := (blk_cell BK199.out 2).trans rfl
 have hfs18 := blk_frozen BK199.out 2
 have hns18_0 := NB197_199.out
 have hns18_1 := NB198_199.out
 have hms18_0 := NB199_197.out
 have hms18_1 := NB199_198.out
 refine skip_ (w1 := ?_) (by rfl) rfl ?_ ?_
 rotate_left
 ·go_simp
  rfl
 refine hK.out _ _ ⟨((cell_far (p := ⟨gb199, _, none⟩) NB197_199.out _).trans (((cell_far (p := ⟨gb199, _, none⟩) NB197_199.out _).trans (((cell_far (p := ⟨gb199, _, none⟩) NB197_199.out _).trans (hHeld.1)))))), ((cell_far (p := ⟨gb199, _, none⟩) NB197_199.out _).trans (((cell_far (p := ⟨gb199, _, none⟩) NB197_199.out _).trans (((cell_far (p := ⟨gb199, _, none⟩) NB197_199.out _).trans (hHeld.2.1)))))), ((cell_far (p := ⟨gb199, _, none⟩) NB197_199.out _).trans (((cell_far (p := ⟨gb199, _, none⟩) NB197_199.out _).trans (((cell_far (p := ⟨gb199, _, none⟩) NB197_199.out _).trans (hHeld.2.2.1)))))), ((cell_far (p := ⟨gb199, _, none⟩) NB198_199.out _).trans (((cell_far (p := ⟨gb199, _, none⟩) NB198_199.out _).trans (((cell_far (p := ⟨gb199, _, none⟩) NB198_199.out _).trans (hHeld.2.2.2.1)))))), ((cell_far (p := ⟨gb199, _, none⟩) NB198_199.out _).trans (((cell_far (p := ⟨gb199, _, none⟩) NB198_199.out _).trans (((cell_far (p := ⟨gb199, _, none⟩) NB198_199.out _).trans (hHeld.2.2.2.2.1)))))), ((cell_far (p := ⟨gb199, _, none⟩) NB198_199.out _).trans (((cell_far (p := ⟨gb199, _, none⟩) NB198_199.out _).trans (((cell_far (p := ⟨gb199, _, none⟩) NB198_199.out _).trans (hHeld.2.2.2.2.2))))))⟩ (fun hHeld => ?_)
 clear hK K
 refine done_ (by kernel_rfl) ?_
 try go_wp2
 refine bodyPost_ret (results_cell_row rfl _ _ gb199 24 #[.bool false, .string (⟨#[102, 117, 110]⟩ : ByteArray), .slice Ao15 y210.length co15] (0, 0) _ rfl (by (with_reducible repeat (first | refine blk_drewN ?_ _ | refine blk_drew ?_ | refine blk_alloc ?_ _)); refine blk_put (cs := #[.bool false, .string (⟨#[102, 117, 110]⟩ : ByteArray), .slice none 0 0]) ?_ 2 _ rfl; (with_reducible repeat (first | refine blk_drewN ?_ _ | refine blk_drew ?_ | refine blk_alloc ?_ _)); refine blk_put (cs := #[.bool false, .string (⟨#[]⟩ : ByteArray), .slice none 0 0]) ?_ 1 _ rfl; (with_reducible repeat (first | refine blk_drewN ?_ _ | refine blk_drew ?_ | refine blk_alloc ?_ _)); refine blk_put (cs := #[.bool false, .string (⟨#[]⟩ : ByteArray), .slice none 0 0]) ?_ 0 _ rfl; (with_reducible repeat (first | refine blk_drewN ?_ _ | refine blk_drew ?_ | refine blk_alloc ?_ _)); exact BK199.out) Try.underlying24 rfl (by kernel_rfl)) rfl ?_
 exact ⟨_, by first | rfl | (simp [errW_none, errW_some] <;> rfl) | (simp [*, errW_none, errW_some] <;> rfl), by (with_reducible repeat (first | apply Kd.N_alloc | apply Kd.N_drewN | apply Kd.N_drew)); exact Kd.N_mono (Kd.N_far (p := ⟨gb199, 2, none⟩) (Kd.N_far (p := ⟨gb199, 1, none⟩) (Kd.N_far (p := ⟨gb199, 0, none⟩) (Kd.N_mono HO212.out (fun k_ hk => (⟨hk, hk.2.2.2⟩ : _ ∧ k_ ≠ gb199))) (fun _ hk => hk.2) (.bool false)) (fun _ hk => hk.2) (.string (⟨#[102, 117, 110]⟩ : ByteArray))) (fun _ hk => hk.2) (.slice Ao15 y210.length co15)) (fun _ hk => hk.1.1), bel_⟩

end Go.Proofs.Ytecplbgdalchdaa.Q
/- Proved here: stores of strings over strings. Conditions: those that each theorem names. -/
namespace Go.Proofs.Ytecplbgdalchdaa.Q
open Go.RowKit Go.Shelf Go.Proofs.YtecplbgdalchdaaW.PrintWords Go.Proofs.YtecplbgdalchdaaW.PrintMore
set_option linter.unusedVariables false
set_option linter.unusedSimpArgs false

/-! ### Stores of strings over strings -/
structure StrStep (ok : Nat → Prop) (w w' : World) : Prop where
  os : w'.os = w.os
  tape : w'.tape = w.tape
  output : w'.output = w.output
  size : w.heap.size ≤ w'.heap.size
  keep : ∀ k, k < w.heap.size → ¬ ok k → w'.heap[k]? = w.heap[k]?
  str : ∀ (k : Nat) (cur : Array Value) (t : TypeId) (fr : Nat × Nat), w.heap[k]? = some (.cells cur t fr) → ∃ cur' : Array Value, w'.heap[k]? = some (.cells cur' t fr) ∧ cur'.size = cur.size ∧ ∀ i : Nat, cur'[i]? = cur[i]? ∨ ((∃ s, cur[i]? = some (Value.string s)) ∧ ∃ s', cur'[i]? = some (Value.string s'))
theorem StrStep.refl (ok : Nat → Prop) (w : World) : StrStep ok w w := ⟨rfl, rfl, rfl, Nat.le_refl _, fun _ _ _ => rfl, fun k cur t fr h => ⟨cur, h, rfl, fun i => .inl rfl⟩⟩
theorem StrStep.trans {ok : Nat → Prop} {a b c : World} (h : StrStep ok a b) (k : StrStep ok b c) : StrStep ok a c :=
  ⟨k.os.trans h.os, k.tape.trans h.tape, k.output.trans h.output, Nat.le_trans h.size k.size, fun i hi ho => (k.keep i (Nat.lt_of_lt_of_le hi h.size) ho).trans (h.keep i hi ho), fun i cur t fr hc => by
    obtain ⟨cur1, h1, z1, e1⟩ := h.str i cur t fr hc
    obtain ⟨cur2, h2, z2, e2⟩ := k.str i cur1 t fr h1
    refine ⟨cur2, h2, z2.trans z1, fun j => ?_⟩
    rcases e1 j with e1 | ⟨s1, s1'⟩ <;> rcases e2 j with e2 | ⟨s2, s2'⟩
    · exact .inl (e2.trans e1)
    · rw [e1] at s2; exact .inr ⟨s2, s2'⟩
    · rw [← e2] at s1'; exact .inr ⟨s1, s1'⟩
    · exact .inr ⟨s1, s2'⟩⟩
theorem StrStep.below {ok : Nat → Prop} {a b : World} {B : Nat} (h : StrStep ok a b) (hB : B ≤ a.heap.size) (ho : ∀ k, ok k → B ≤ k) : Below B a b :=
  ⟨h.os, h.tape, h.output, h.size, fun k hk => h.keep k (by omega) (fun h2 => by have := ho k h2; omega)⟩
theorem StrStep.set {ok : Nat → Prop} {w : World} {g i : Nat} {cur : Array Value} {t : TypeId} {s s' : ByteArray} (hg : w.heap[g]? = some (.cells cur t (0, 0))) (ho : ok g) (hi : cur[i]? = some (.string s)) : StrStep ok w (w.setCell ⟨g, i, none⟩ (.string s')) := by
  refine ⟨rfl, rfl, rfl, by simp [World.setCell], fun k hk hn => Below.heap_setCell _ _ _ _ (by rintro rfl; exact hn ho), fun k c t' fr hc => ?_⟩
  by_cases hk : k = g
  · subst hk
    rw [hg] at hc
    obtain ⟨rfl, rfl, rfl⟩ : cur = c ∧ t = t' ∧ (0, 0) = fr := by injection hc with hc; injection hc with a b c; exact ⟨a, b, c⟩
    refine ⟨_, blk_put hg i (.string s') rfl, by simp, fun j => ?_⟩
    by_cases hj : i = j
    · subst hj
      exact .inr ⟨⟨s, hi⟩, s', Array.getElem?_setIfInBounds_self_of_lt (Array.getElem?_eq_some_iff.1 hi).1⟩
    · exact .inl (Array.getElem?_setIfInBounds_ne hj)
  · exact ⟨c, (Below.heap_setCell _ _ _ _ hk).trans hc, rfl, fun j => .inl rfl⟩

theorem StrStep.slice_cell {ok : Nat → Prop} {a b : World} {k i n c : Nat} {cur : Array Value} {t : TypeId} {A : Option Addr} (h : StrStep ok a b) (hc : a.heap[k]? = some (.cells cur t (0, 0))) (hi : cur[i]? = some (.slice A n c)) : b.cell? ⟨k, i, none⟩ = some (.slice A n c) := by
  obtain ⟨cur', h1, _, he⟩ := h.str k cur t _ hc
  rw [blk_cell h1 i]
  rcases he i with e | ⟨⟨s, e⟩, _⟩
  · exact e.trans hi
  · rw [hi] at e; cases e
end Go.Proofs.Ytecplbgdalchdaa.Q
