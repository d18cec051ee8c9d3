/- Proved here: parts of the proof of a given statement (HRowTypesNames): contracts of the functions that it reaches, what they answer, and in the last text the statement itself. Conditions: those that each theorem names. -/
import Derived.Test.YtgnklkmifcmlhaaZTnX4
import Derived.Test.YtgnklkmifcmlhaaZTnX5
import Derived.Test.YtgnklkmifcmlhaaZTnX3
import Derived.Deep.RegionHeld3
import Derived.Maps.AppendAt
import Derived.Deep.AppendLies
/- Proved here: the contract of types.Compare. Conditions: those that each theorem names. -/
namespace Go.Proofs.Ytgnklkmifcmlhaa.Q
open Go.RowKit Go.Proofs.YtgnklkmifcmlhaaW.PrintWords Go.Proofs.YtgnklkmifcmlhaaW.PrintMore
set_option linter.unusedVariables false
set_option linter.unusedSimpArgs false

/-! ### The order of types -/
def cmpI (a b : Int) : Int := if a < b then -1 else if b < a then 1 else 0
def or3 (a b c : Int) : Int := if a ≠ 0 then a else if b ≠ 0 then b else c
def rankT (b : Bool) : Int := if b = true then 0 else 1
def headC (a b : S25) : Int := or3 (cmpI (rankT a.f0) (rankT b.f0)) (Lib.compareBytes a.f1.data.toList b.f1.data.toList) (cmpI (a.f2.length : Int) (b.f2.length : Int))
mutual
def cmpT : S25 → S25 → Int
  | ⟨a0, a1, a2⟩, ⟨b0, b1, b2⟩ => if headC ⟨a0, a1, a2⟩ ⟨b0, b1, b2⟩ ≠ 0 then headC ⟨a0, a1, a2⟩ ⟨b0, b1, b2⟩ else cmpL a2 b2
def cmpL : List S25 → List S25 → Int
  | [], [] => 0
  | [], _ :: _ => -1
  | _ :: _, [] => 1
  | a :: l, b :: m => if cmpT a b ≠ 0 then cmpT a b else cmpL l m
end
mutual
def szT : S25 → Nat
  | ⟨_, _, l⟩ => szL l + 1
def szL : List S25 → Nat
  | [] => 0
  | a :: l => szT a + szL l
end
theorem szL_mem : ∀ (l : List S25) (x : S25), x ∈ l → szT x ≤ szL l
  | a :: l, x, h => by
    simp only [szL]
    rcases List.mem_cons.1 h with rfl | h
    · omega
    · have := szL_mem l x h; omega
theorem szT_pos (x : S25) : 0 < szT x := by cases x; simp [szT]
theorem cmpT_eq (a b : S25) : cmpT a b = if headC a b ≠ 0 then headC a b else cmpL a.f2 b.f2 := by cases a; cases b; simp only [cmpT]

theorem cmp_Compare_f (a b : Int) : cmp_Compare_int.f a b = some (cmpI a b) := by
  simp only [cmp_Compare_int.f, cmp_isNaN_int.f, cmpI]
  split <;> simp_all <;> split <;> simp_all
theorem or_f (a b c : Int) : cmp_Or_int.f 5 [a, b, c] = some (or3 a b c) := by
  have w0 : wrap64 1 = 1 := by unfold wrap64; omega
  have w1 : wrap64 2 = 2 := by unfold wrap64; omega
  have w2 : wrap64 3 = 3 := by unfold wrap64; omega
  simp only [cmp_Or_int.f, cmp_Or_int.l0, or3, List.length_cons, List.length_nil, rd]
  by_cases ha : a = 0 <;> by_cases hb : b = 0 <;> by_cases hc : c = 0 <;> simp [ha, hb, hc, w0, w1, w2, cmp_Or_int.l0, rd]
theorem rank_f (x : S25) : types_rank.f x.f0 x.f1 x.f2 = some (rankT x.f0) := by
  simp only [types_rank.f, rankT]; split <;> rfl

/-! ### CompareFunc, Compare -/
def CmpOk (x y : S25) : Prop := ∀ (A : Option Addr) (c : Nat) (B : Option Addr) (d : Nat) (w : World), k25.C w A x.f2.length x.f2 → x.f2.length ≤ c → k25.C w B y.f2.length y.f2 → y.f2.length ≤ d →
    Calls Try.prog 33 #[.agg #[.bool x.f0, .string x.f1, .slice A x.f2.length c], .agg #[.bool y.f0, .string y.f1, .slice B y.f2.length d]] w fun e w' => e = .returned (.int .i64 (cmpT x y)) ∧ Below w.heap.size w w'

set_option maxHeartbeats 2000000 in
set_option maxRecDepth 100000 in
theorem compareFunc_calls (l m : List S25) (hok : ∀ x y, x ∈ l → CmpOk x y) (A : Option Addr) (c : Nat) (B : Option Addr) (d : Nat) (w : World) (hA : k25.C w A l.length l) (hB : k25.C w B m.length m) :
    Calls Try.prog 76 #[.slice A l.length c, .slice B m.length d, .func (.func 33) #[] #[]] w fun e w' => e = .returned (.int .i64 (cmpL l m)) ∧ Below w.heap.size w w' := by
  have hm : l.length ≤ 9223372036854775807 := hA.2.1
  have hm2 : m.length ≤ 9223372036854775807 := hB.2.1
  have HA := Aside0.mk hA
  have HB := Aside0.mk hB
  have HO := Aside0.mk hok
  clear hA hB hok
  go_enter Try.func76, Try.ntmps76
  go_wp2
  go_loopg [7, 8, 9, 10, 13] l.length (fun gg _ _ _ _ s13 wr => ∃ kk : Nat, kk ≤ l.length ∧ l.length - kk ≤ gg ∧ s13 = .int .i64 kk ∧ kk ≤ m.length ∧ Aside0 (Below w.heap.size w wr) ∧ Aside0 (cmpL l m = cmpL (l.drop kk) (m.drop kk)))
  case atStart => exact ⟨0, Nat.zero_le _, by omega, rfl, Nat.zero_le _, ⟨Below.refl _ w⟩, ⟨rfl⟩⟩
  case round =>
    obtain ⟨kk, hkk, hg, rfl, hkm, HW, HC⟩ := hrel
    by_cases hlt : kk < l.length
    · have hltz : (kk : Int) < (l.length : Int) := by omega
      obtain ⟨ad, A2, c2, e1, hx0, hx1, hx2, hl2, hi2⟩ := at_T25 (Kd.C_below HA.out HW.out) (kk : Int) (by omega) hltz
      cases e1
      simp only [Int.toNat_natCast] at hx0 hx1 hx2
      have hmem : l.getD kk z25 ∈ l := getD_mem l z25 kk hlt
      have hX : rd_T25 l kk = l.getD kk z25 := rfl
      by_cases hlm : kk < m.length
      · have hlmz : (kk : Int) < (m.length : Int) := by omega
        have hge : decide (m.length ≤ kk) = false := by simp; omega
        obtain ⟨bd, B2, d2, e1, hy0, hy1, hy2, hl2', hi2'⟩ := at_T25 (Kd.C_below HB.out HW.out) (kk : Int) (by omega) hlmz
        cases e1
        simp only [Int.toNat_natCast] at hy0 hy1 hy2
        have hY : rd_T25 m kk = m.getD kk z25 := rfl
        have hC := HC.out
        rw [drop_rd l z25 kk hlt, drop_rd m z25 kk hlm, ← hX, ← hY] at hC
        rw [← hX] at hmem
        have hok := HO.out _ (rd_T25 m kk) hmem
        simp only [cmpL] at hC
        clear hX hY hmem HC
        generalize rd_T25 l kk = x at *
        generalize rd_T25 m kk = y at *
        have HC := Aside0.mk hC
        have hcall := fun W (hw : Below wr.heap.size wr W) => hok A2 c2 B2 d2 W (Kd.C_below hi2 hw) hl2 (Kd.C_below hi2' hw) hl2'
        clear hC hok hl2 hi2 hl2' hi2'
        have ax := World.block_lt_of_cell? wr _ hx0
        have ay := World.block_lt_of_cell? wr _ hy0
        generalize cmpT x y = r at *
        by_cases hr : r = 0
        · have hr1 : (r != 0) = false := bne_eq_false_iff_eq.mpr hr
          have HR := Lib.hid hr
          clear hr
          go_wp2_with (go_at_call 33; refine (hcall _ (below_two _ _)).mono ?_; rintro e w' ⟨rfl, hb'⟩)
          go_roundg (l.length - (kk + 1))
          case measure => omega
          case rel =>
            have hC := HC.out
            rw [if_neg (by rw [HR.out]; simp)] at hC
            exact ⟨kk + 1, by omega, by omega, by go_num, by omega, ⟨HW.out.trans ((below_step (below_two _ _) hb').mono HW.out.size)⟩, ⟨hC⟩⟩
        · have hr1 : (r != 0) = true := bne_iff_ne.mpr hr
          go_wp2_with (go_at_call 33; refine (hcall _ (below_two _ _)).mono ?_; rintro e w' ⟨rfl, hb'⟩)
          go_ret
          have hC := HC.out
          rw [if_pos hr] at hC
          exact ⟨by rw [hC]; rfl, HW.out.trans ((below_step (below_two _ _) hb').mono HW.out.size)⟩
      · have hge : decide (m.length ≤ kk) = true := by simp; omega
        have hC := HC.out
        rw [drop_rd l z25 kk hlt, List.drop_of_length_le (show m.length ≤ kk by omega)] at hC
        simp only [cmpL] at hC
        have HC := Aside0.mk hC
        clear hC hX hmem hl2 hi2
        go_wp2
        go_ret
        exact ⟨by rw [HC.out]; rfl, HW.out.trans ((below_one _).mono HW.out.size)⟩
    · have hltz : ¬ (kk : Int) < (l.length : Int) := by omega
      have hC := HC.out
      rw [List.drop_of_length_le (show l.length ≤ kk by omega)] at hC
      by_cases hlm : l.length < m.length
      · have hd : decide (l.length < m.length) = true := by simp; omega
        rw [drop_rd m z25 kk (by omega)] at hC
        simp only [cmpL] at hC
        have HC := Aside0.mk hC
        clear hC
        go_wp2
        go_ret
        exact ⟨by rw [HC.out]; rfl, HW.out⟩
      · have hd : decide (l.length < m.length) = false := by simp; omega
        rw [List.drop_of_length_le (show m.length ≤ kk by omega)] at hC
        simp only [cmpL] at hC
        have HC := Aside0.mk hC
        clear hC
        go_wp2
        go_ret
        exact ⟨by rw [HC.out]; rfl, HW.out⟩

/-- The two boxes of Compare's arguments, and that nothing elder has turned. -/
abbrev TwoTy (w : World) (x y : S25) (A : Option Addr) (c : Nat) (B : Option Addr) (d : Nat) (W : World) : Prop :=
  W.cell? ⟨w.heap.size, 0, none⟩ = some (.bool x.f0) ∧ W.cell? ⟨w.heap.size, 1, none⟩ = some (.string x.f1) ∧ W.cell? ⟨w.heap.size, 2, none⟩ = some (.slice A x.f2.length c) ∧
    W.cell? ⟨w.heap.size + 1, 0, none⟩ = some (.bool y.f0) ∧ W.cell? ⟨w.heap.size + 1, 1, none⟩ = some (.string y.f1) ∧ W.cell? ⟨w.heap.size + 1, 2, none⟩ = some (.slice B y.f2.length d) ∧ Below w.heap.size w W
theorem TwoTy.step {w : World} {x y : S25} {A : Option Addr} {c : Nat} {B : Option Addr} {d : Nat} {W W' : World} (h : TwoTy w x y A c B d W) (hb : Below W.heap.size W W') : TwoTy w x y A c B d W' :=
  ⟨pw_cell_below hb h.1, pw_cell_below hb h.2.1, pw_cell_below hb h.2.2.1, pw_cell_below hb h.2.2.2.1, pw_cell_below hb h.2.2.2.2.1, pw_cell_below hb h.2.2.2.2.2.1, below_step h.2.2.2.2.2.2 hb⟩
theorem orCall (a b c : Int) (W : World) (g : Nat) (h : W.heap[g]? = some (.cells #[.int .i64 a, .int .i64 b, .int .i64 c] 3 (0, 0))) :
    Calls Try.prog 72 #[.slice (some ⟨g, 0, none⟩) 3 3] W fun e w' => e = .returned (.int .i64 (or3 a b c)) ∧ Drawn0 W w' := by
  refine cmp_Or_int.calls 5 (some ⟨g, 0, none⟩) 3 [a, b, c] _ W ⟨rfl, by simp, fun _ => ⟨_, rfl, fun j p hj => ?_⟩⟩ (by simp) (or_f a b c)
  have hj3 : j < 3 := by have := (List.getElem?_eq_some_iff.1 hj).1; simpa using this
  refine ⟨[.int .i64 p], rfl, rfl, fun i u hu => ?_⟩
  have hi : i = 0 := by have := (List.getElem?_eq_some_iff.1 hu).1; simp at this; exact this
  subst hi
  have hu' : u = .int .i64 p := by simpa using hu.symm
  subst hu'
  rw [show (Kd.int .i64).sz = 1 from rfl, add_plain, Nat.mul_one, Nat.add_zero, blk_cell h]
  match j, hj3, hj with
  | 0, _, hj => simp at hj; simp [hj]
  | 1, _, hj => simp at hj; simp [hj]
  | 2, _, hj => simp at hj; simp [hj]

set_option maxHeartbeats 4000000 in
set_option maxRecDepth 100000 in
theorem compare_step (x y : S25) (hok : ∀ a b, a ∈ x.f2 → CmpOk a b) : CmpOk x y := by
  intro A c B d w hA hc hB hd
  have hrx := fun W (hw : TwoTy w x y A c B d W) => (types_rank.calls x.f0 x.f1 A c x.f2 _ W (Kd.C_below hA hw.2.2.2.2.2.2) hc (rank_f x)).mono (fun _ _ h => And.intro h.1 (hw.step h.2))
  have hry := fun W (hw : TwoTy w x y A c B d W) => (types_rank.calls y.f0 y.f1 B d y.f2 _ W (Kd.C_below hB hw.2.2.2.2.2.2) hd (rank_f y)).mono (fun _ _ h => And.intro h.1 (hw.step h.2))
  have hcc := fun a b W (hw : TwoTy w x y A c B d W) => (cmp_Compare_int.calls a b _ W (cmp_Compare_f a b)).mono (fun _ _ h => And.intro h.1 (hw.step h.2.below))
  have hst := fun a b W (hw : TwoTy w x y A c B d W) => (compare_calls a b W).mono (fun _ W' h => And.intro h.1 (show TwoTy w x y A c B d W' by rw [h.2]; exact hw))
  have hor := fun a b c' W (hw : TwoTy w x y A c B d W) => (orCall a b c' (W.alloc (.cells #[.int .i64 a, .int .i64 b, .int .i64 c'] 3)) W.heap.size (blk_new W _)).mono (fun _ _ h => And.intro h.1 ((hw.step (below_one _)).step h.2.below))
  have HF := fun W (hw : Below w.heap.size w W) => compareFunc_calls x.f2 y.f2 hok A c B d W (Kd.C_below hA hw) (Kd.C_below hB hw)
  clear hA hB hok hc hd
  go_enter Try.func33, Try.ntmps33
  go_wp2_with fail
  have hbw := below_two (w := w) (.cells #[.bool x.f0, .string x.f1, .slice A x.f2.length c] 25) (.cells #[.bool y.f0, .string y.f1, .slice B y.f2.length d] 25)
  have BX := box3 (blk_mid (w := w) (.cells #[.bool x.f0, .string x.f1, .slice A x.f2.length c] 25) (.cells #[.bool y.f0, .string y.f1, .slice B y.f2.length d] 25))
  have BY := box3 (blk_top (w := w) (.cells #[.bool x.f0, .string x.f1, .slice A x.f2.length c] 25) (.cells #[.bool y.f0, .string y.f1, .slice B y.f2.length d] 25))
  obtain ⟨a0, a1, a2, _, _, _⟩ := BX
  obtain ⟨b0, b1, b2, _, _, _⟩ := BY
  generalize (w.alloc (.cells #[.bool x.f0, .string x.f1, .slice A x.f2.length c] 25)).alloc (.cells #[.bool y.f0, .string y.f1, .slice B y.f2.length d] 25) = W0 at *
  have hS0 : TwoTy w x y A c B d W0.drew := ⟨a0, a1, a2, b0, b1, b2, below_drew1 hbw⟩
  go_region_held3 (fun W => TwoTy w x y A c B d W)
    (first | exact hS0 | assumption | exact TwoTy.step (by assumption) (below_one _))
    (first | (go_at_call 74; refine (hrx _ (by assumption)).mono ?_; rintro e w1 ⟨rfl, hN⟩) | (go_at_call 74; refine (hry _ (by assumption)).mono ?_; rintro e w1 ⟨rfl, hN⟩) | (go_at_call 73; refine (hcc _ _ _ (by assumption)).mono ?_; rintro e w1 ⟨rfl, hN⟩) | (go_at_call 75; refine (hst _ _ _ (by assumption)).mono ?_; rintro e w1 ⟨rfl, hN⟩) | (go_at_call 72; refine (hor _ _ _ _ (by assumption)).mono ?_; rintro e w1 ⟨rfl, hN⟩))
  have hH : TwoTy w x y A c B d w1 := hN
  obtain ⟨e0, e1, e2, g0, g1, g2, hb⟩ := hH
  have hq : or3 (cmpI (rankT x.f0) (rankT y.f0)) (Lib.compareBytes x.f1.data.toList y.f1.data.toList) (cmpI (x.f2.length : Int) (y.f2.length : Int)) = headC x y := rfl
  rw [hq]
  have HE := Lib.hid (cmpT_eq x y)
  have HFF := HF w1 hb
  have HB := Aside0.mk hb
  clear hrx hry hcc hst hor hS0 hq hN hbw HF hb a0 a1 a2 b0 b1 b2
  generalize headC x y = r at *
  by_cases hr : r = 0
  · have hr1 : (r != 0) = false := bne_eq_false_iff_eq.mpr hr
    have HR := Lib.hid hr
    clear hr
    go_wp2_with (go_at_call 76; refine HFF.mono ?_; rintro e w2 ⟨rfl, hb2⟩)
    go_ret
    exact ⟨by rw [HE.out, if_neg (by rw [HR.out]; simp)]; rfl, below_step HB.out hb2⟩
  · have hr1 : (r != 0) = true := bne_iff_ne.mpr hr
    have HR := Lib.hid hr
    clear hr
    go_wp2
    go_ret
    exact ⟨by rw [HE.out, if_pos HR.out]; rfl, HB.out⟩

theorem compare_ok : ∀ (n : Nat) (x y : S25), szT x ≤ n → CmpOk x y
  | 0, x, _, h => by have := szT_pos x; omega
  | n + 1, x, y, h => compare_step x y (fun a b ha => compare_ok n a b (by
      have := szL_mem x.f2 a ha
      have h2 : szT x = szL x.f2 + 1 := by cases x; simp [szT]
      omega))

theorem szT_eq (t : S25) : szT t = szL t.f2 + 1 := by cases t; simp [szT]
end Go.Proofs.Ytgnklkmifcmlhaa.Q
/- Proved here: trees of types in memory that may be written. Conditions: those that each theorem names. -/
namespace Go.Proofs.Ytgnklkmifcmlhaa.Q
open Go.RowKit Go.Proofs.YtgnklkmifcmlhaaW.PrintWords Go.Proofs.YtgnklkmifcmlhaaW.PrintMore
set_option linter.unusedVariables false
set_option linter.unusedSimpArgs false

theorem szT_eq' (t : S25) : szT t = szL t.f2 + 1 := by cases t; simp [szT]
theorem szL_len : ∀ l : List S25, l.length ≤ szL l
  | [] => Nat.zero_le _
  | a :: l => by
    have h1 := szL_len l
    have h2 := szT_pos a
    simp only [szL, List.length_cons]
    omega
theorem box3s {w : World} {g : Nat} {t : TypeId} {a b c : Value} (h : w.heap[g]? = some (.cells #[a, b, c] t (0, 0))) :
    w.cell? ⟨g, 0, none⟩ = some a ∧ w.cell? ⟨g, 1, none⟩ = some b ∧ w.cell? ⟨g, 2, none⟩ = some c ∧ w.frozen? ⟨g, 0, none⟩ = false ∧ w.frozen? ⟨g, 1, none⟩ = false ∧ w.frozen? ⟨g, 2, none⟩ = false ∧ g < w.heap.size :=
  ⟨(box3 h).1, (box3 h).2.1, (box3 h).2.2.1, (box3 h).2.2.2.1, (box3 h).2.2.2.2.1, (box3 h).2.2.2.2.2, blk_lt h⟩
/-! ### Trees of the call's own, which may be written: each row lies in a block of its own kind, not frozen -/
inductive WT (w : World) (ok : Nat → Prop) : Value → List S25 → Prop where
  | nil (A : Option Addr) (c : Nat) : WT w ok (.slice A 0 c) []
  | row (g cap : Nat) (cur : Array Value) (l : List S25) (vs : Nat → Value) (hn : 0 < l.length) (hg : ok g) (hb : w.heap[g]? = some (.cells cur 25 (0, 0)))
      (hl : l.length ≤ cap) (hm : cap ≤ 9223372036854775807) (hz : cur.size = cap * 3)
      (h0 : ∀ j, j < l.length → cur[j * 3]? = some (.bool (rd_T25 l (j : Int)).f0)) (h1 : ∀ j, j < l.length → cur[j * 3 + 1]? = some (.string (rd_T25 l (j : Int)).f1))
      (h2 : ∀ j, j < l.length → cur[j * 3 + 2]? = some (vs j)) (hr : ∀ j, j < l.length → WT w ok (vs j) (rd_T25 l (j : Int)).f2) : WT w ok (.slice (some ⟨g, 0, none⟩) l.length cap) l

theorem WT.mono {w : World} {ok ok' : Nat → Prop} {v : Value} {l : List S25} (h : WT w ok v l) (hok : ∀ k, ok k → ok' k) : WT w ok' v l := by
  induction h with
  | nil A c => exact .nil A c
  | row g cap cur l vs hn hg hb hl hm hz h0 h1 h2 hr ih => exact .row g cap cur l vs hn (hok g hg) hb hl hm hz h0 h1 h2 (fun j hj => ih j hj)
theorem WT.step {w w1 : World} {ok : Nat → Prop} {v : Value} {l : List S25} (h : WT w ok v l) (hm : ∀ k, ok k → k < w.heap.size → w1.heap[k]? = w.heap[k]?) : WT w1 ok v l := by
  induction h with
  | nil A c => exact .nil A c
  | row g cap cur l vs hn hg hb hl hm' hz h0 h1 h2 hr ih => exact .row g cap cur l vs hn hg ((hm g hg (blk_lt hb)).trans hb) hl hm' hz h0 h1 h2 (fun j hj => ih j hj)
theorem WT.bound {w : World} {ok : Nat → Prop} {v : Value} {l : List S25} (h : WT w ok v l) : WT w (fun k => ok k ∧ k < w.heap.size) v l := by
  induction h with
  | nil A c => exact .nil A c
  | row g cap cur l vs hn hg hb hl hm' hz h0 h1 h2 hr ih => exact .row g cap cur l vs hn ⟨hg, blk_lt hb⟩ hb hl hm' hz h0 h1 h2 (fun j hj => ih j hj)
theorem WT.later {w w1 : World} {ok : Nat → Prop} {v : Value} {l : List S25} (h : WT w ok v l) (hb : Below w.heap.size w w1) : WT w1 ok v l := h.step (fun k _ hk => hb.block k hk)
theorem WT.far {w : World} {ok : Nat → Prop} {v : Value} {l : List S25} (h : WT w ok v l) (p : Addr) (u : Value) (hp : ∀ k, ok k → k ≠ p.block) : WT (w.setCell p u) ok v l := h.step (fun k hk _ => Below.heap_setCell w p u k (hp k hk))
theorem rd_get (l : List S25) (j : Nat) (p : S25) (h : l[j]? = some p) : j < l.length ∧ rd_T25 l (j : Int) = p := by
  obtain ⟨hj, hp⟩ := List.getElem?_eq_some_iff.1 h
  exact ⟨hj, by unfold rd_T25; simp only [Int.toNat_natCast]; rw [List.getD_eq_getElem?_getD, h]; rfl⟩
theorem add_zero_spot (g n : Nat) : Addr.add ⟨g, 0, none⟩ n = ⟨g, n, none⟩ := by
  unfold Addr.add
  split
  · rename_i h; rw [h]
  · simp
theorem WT.reads {w : World} {ok : Nat → Prop} {v : Value} {l : List S25} (h : WT w ok v l) : ∃ A c, v = .slice A l.length c ∧ l.length ≤ c ∧ k25.C w A l.length l := by
  induction h with
  | nil A c => exact ⟨A, c, rfl, Nat.zero_le _, rfl, by simp, fun h => absurd h (by simp)⟩
  | row g cap cur l vs hn hg hb hl hm hz h0 h1 h2 hr ih =>
    refine ⟨_, _, rfl, hl, rfl, by omega, fun _ => ⟨_, rfl, fun j p hj => ?_⟩⟩
    obtain ⟨hjl, hp⟩ := rd_get l j p hj
    obtain ⟨A, c, hv, hlc, hC⟩ := ih j hjl
    have g0 := h0 j hjl
    have g1 := h1 j hjl
    have g2 := h2 j hjl
    rw [hp] at g0 g1 hv hlc hC
    rw [hv] at g2
    refine ⟨[.bool p.f0, .string p.f1, .slice A p.f2.length c], rfl, k25_mk w p hlc hC, fun i u hu => ?_⟩
    · show w.cell? (Addr.add ⟨g, 0, none⟩ (j * 3 + i)) = some u
      rw [add_zero_spot, blk_cell hb]
      match i, hu with
      | 0, hu => exact g0.trans hu
      | 1, hu => exact g1.trans hu
      | 2, hu => exact g2.trans hu
      | i + 3, hu => simp at hu
/-! ### A row of such trees under construction (append) -/
def RowW (w : World) (base : Nat) (v : Value) (ys : List S25) : Prop :=
  ∃ (inner : List Value) (vs : Nat → Value), w.ownsRow base 25 3 v ys.length inner ∧ ∀ j, j < ys.length → inner[j * 3]? = some (.bool (rd_T25 ys (j : Int)).f0) ∧ inner[j * 3 + 1]? = some (.string (rd_T25 ys (j : Int)).f1) ∧ inner[j * 3 + 2]? = some (vs j) ∧ WT w (fun k => base ≤ k ∧ some k ≠ v.ownBlock) (vs j) (rd_T25 ys (j : Int)).f2
theorem RowW.nil (w : World) (base : Nat) : RowW w base (.slice none 0 0) [] := ⟨[], fun _ => undef, World.ownsRow_nil _ _ _ _, fun j hj => absurd hj (by simp)⟩
theorem RowW.step {w w1 : World} {base : Nat} {v : Value} {ys : List S25} (h : RowW w base v ys) (hm : ∀ k, base ≤ k → k < w.heap.size → w1.heap[k]? = w.heap[k]?) : RowW w1 base v ys := by
  obtain ⟨inner, vs, hrow, hel⟩ := h
  exact ⟨inner, vs, own_move hrow (fun k hk => hm k (own_base hrow k hk) (own_lt hrow k hk)), fun j hj => ⟨(hel j hj).1, (hel j hj).2.1, (hel j hj).2.2.1, (hel j hj).2.2.2.step (fun k hk hlt => hm k hk.1 hlt)⟩⟩
theorem RowW.far {w : World} {base : Nat} {v : Value} {ys : List S25} (h : RowW w base v ys) (p : Addr) (u : Value) (hp : p.block < base) : RowW (w.setCell p u) base v ys := h.step (fun k hk _ => Below.heap_setCell w p u k (by omega))
theorem rd_left (ys : List S25) (x : S25) (j : Nat) (hj : j < ys.length) : rd_T25 (ys ++ [x]) (j : Int) = rd_T25 ys (j : Int) := by
  unfold rd_T25
  simp only [Int.toNat_natCast]
  rw [List.getD_eq_getElem?_getD, List.getD_eq_getElem?_getD, List.getElem?_append_left hj]
theorem rd_last (ys : List S25) (x : S25) : rd_T25 (ys ++ [x]) (ys.length : Int) = x := by
  unfold rd_T25
  simp only [Int.toNat_natCast]
  rw [List.getD_eq_getElem?_getD, List.getElem?_append_right (Nat.le_refl _)]
  simp
theorem RowW.next {w w3 : World} {base g cap : Nat} {v u : Value} {ys : List S25} {x : S25} {inner : List Value} {vs : Nat → Value} (hrow : w.ownsRow base 25 3 v ys.length inner)
    (hel : ∀ j, j < ys.length → inner[j * 3]? = some (.bool (rd_T25 ys (j : Int)).f0) ∧ inner[j * 3 + 1]? = some (.string (rd_T25 ys (j : Int)).f1) ∧ inner[j * 3 + 2]? = some (vs j) ∧ WT w (fun k => base ≤ k ∧ some k ≠ v.ownBlock) (vs j) (rd_T25 ys (j : Int)).f2)
    (hu : WT w (fun k => base ≤ k ∧ some k ≠ v.ownBlock) u x.f2) (hown : w3.ownsRow base 25 3 (.slice (some ⟨g, 0, none⟩) (ys.length + 1) cap) (ys.length + 1) (inner ++ [.bool x.f0, .string x.f1, u]))
    (hgr : w.grownBy w3 v.ownBlock) (hat : v.ownBlock = some g ∨ g = w.heap.size) : RowW w3 base (.slice (some ⟨g, 0, none⟩) (ys.length + 1) cap) (ys ++ [x]) := by
  have hil : inner.length = ys.length * 3 := hrow.1
  have hmv : ∀ {z : Value} {l : List S25}, WT w (fun k => base ≤ k ∧ some k ≠ v.ownBlock) z l → WT w3 (fun k => base ≤ k ∧ some k ≠ (Value.slice (some ⟨g, 0, none⟩) (ys.length + 1) cap).ownBlock) z l := by
    intro z l h
    refine (h.bound.step (fun k hk hlt => hgr.block k hlt hk.1.2)).mono (fun k hk => ⟨hk.1.1, fun he => ?_⟩)
    have hkg : k = g := by simpa [Value.ownBlock] using he
    subst hkg
    rcases hat with hat | hat
    · exact hk.1.2 hat.symm
    · have := hk.2; omega
  refine ⟨inner ++ [.bool x.f0, .string x.f1, u], fun j => if j = ys.length then u else vs j, by simpa using hown, fun j hj => ?_⟩
  rw [List.length_append, List.length_singleton] at hj
  by_cases hje : j = ys.length
  · subst hje
    simp only [if_true]
    rw [rd_last]
    refine ⟨?_, ?_, ?_, hmv hu⟩
    · rw [List.getElem?_append_right (by omega), hil, Nat.sub_self]; rfl
    · rw [List.getElem?_append_right (by omega), hil, Nat.add_sub_cancel_left]; rfl
    · rw [List.getElem?_append_right (by omega), hil, Nat.add_sub_cancel_left]; rfl
  · have hj2 : j < ys.length := by omega
    obtain ⟨q0, q1, q2, q3⟩ := hel j hj2
    simp only [if_neg hje]
    rw [rd_left _ _ _ hj2]
    have : (j + 1) * 3 ≤ ys.length * 3 := Nat.mul_le_mul_right _ hj2
    exact ⟨by rw [List.getElem?_append_left (by omega)]; exact q0, by rw [List.getElem?_append_left (by omega)]; exact q1, by rw [List.getElem?_append_left (by omega)]; exact q2, hmv q3⟩
theorem own_later {w w1 : World} {base n : Nat} {e : TypeId} {size : Nat} {v : Value} {xs : List Value} (h : w.ownsRow base e size v n xs) (hb : Below w.heap.size w w1) : w1.ownsRow base e size v n xs := own_move h (fun k hk => hb.block k (own_lt h k hk))
theorem RowW.tree {w : World} {base : Nat} {v : Value} {ys : List S25} (h : RowW w base v ys) : WT w (fun k => base ≤ k) v ys := by
  obtain ⟨inner, vs, ⟨h1, h2⟩, hel⟩ := h
  rcases h2 with ⟨rfl, h2⟩ | ⟨g, cap, cur, rfl, hg, hb, hl, hm, hz, ht⟩
  · obtain rfl := List.length_eq_zero_iff.1 h2
    exact .nil _ _
  · rcases Nat.eq_zero_or_pos ys.length with h3 | h3
    · obtain rfl := List.length_eq_zero_iff.1 h3
      exact .nil _ _
    · have hs : ∀ j i, j < ys.length → i < 3 → cur[j * 3 + i]? = inner[j * 3 + i]? := by
        intro j i hj hi
        have hlt : j * 3 + i < ys.length * 3 := by
          have : (j + 1) * 3 ≤ ys.length * 3 := Nat.mul_le_mul_right _ hj
          omega
        rw [← ht, List.getElem?_take_of_lt hlt, Array.getElem?_toList]
      exact .row g cap cur ys vs h3 hg hb hl (by simpa [maxLen] using hm) hz (fun j hj => (hs j 0 hj (by omega)).trans (hel j hj).1) (fun j hj => (hs j 1 hj (by omega)).trans (hel j hj).2.1) (fun j hj => (hs j 2 hj (by omega)).trans (hel j hj).2.2.1) (fun j hj => (hel j hj).2.2.2.mono (fun k hk => hk.1))

end Go.Proofs.Ytgnklkmifcmlhaa.Q
/- Proved here: the contract of types.Twin. Conditions: those that each theorem names. -/
namespace Go.Proofs.Ytgnklkmifcmlhaa.Q
open Go.RowKit Go.Shelf Go.Proofs.YtgnklkmifcmlhaaW.PrintWords Go.Proofs.YtgnklkmifcmlhaaW.PrintMore
set_option linter.unusedVariables false
set_option linter.unusedSimpArgs false
attribute [local go_sem] Oper.semAt_some

theorem run_mkT (W : World) (n : Nat) (hn : n ≤ 5864062014805) : (Instr.makeSlice 23 (.int .i64 (n : Int)) (.int .i64 (n : Int))).run Try.prog W = .ok (.slice (some ⟨W.heap.size, 0, none⟩) n n) (W.alloc (.cells (madeCells #[.bool false, .string ⟨#[]⟩, .slice none 0 0] (n * 3)) 25)) := by
  obtain ⟨i0, hi, hz0, hz1, hz2⟩ := info_parts info25
  have h := run_make (P := Try.prog) W 23 25 i0 _ Try.underlying23 hi hz0 .i64 .i64 (n : Int) (n : Int) (by omega) (by omega) (by rw [hz2]; omega) (by omega)
  rw [hz1] at h
  exact h

/-- What the loop of Twin has built. -/
structure TwinAt (w : World) (t : S25) (kk : Nat) (W : World) : Prop where
  b1 : W.heap[w.heap.size]? = some (.cells #[.bool t.f0, .string t.f1, .slice (some ⟨w.heap.size + 2, 0, none⟩) t.f2.length t.f2.length] 25 (0, 0))
  b2 : W.heap[w.heap.size + 1]? = some (.cells #[.bool false, .string ⟨#[]⟩, .slice none 0 0] 25 (0, 0))
  b3 : ∃ (cur : Array Value) (vs : Nat → Value), W.heap[w.heap.size + 2]? = some (.cells cur 25 (0, 0)) ∧ cur.size = t.f2.length * 3 ∧
    ∀ j, j < kk → cur[j * 3]? = some (.bool (rd_T25 t.f2 (j : Int)).f0) ∧ cur[j * 3 + 1]? = some (.string (rd_T25 t.f2 (j : Int)).f1) ∧ cur[j * 3 + 2]? = some (vs j) ∧ WT W (fun k => w.heap.size + 3 ≤ k) (vs j) (rd_T25 t.f2 (j : Int)).f2
  hb : Below w.heap.size w W

/-- The cells that the statement of the loop loads. -/
abbrev TwinS (w wr : World) (x : S25) (A2 : Option Addr) (c2 : Nat) (u : Value) (W : World) : Prop :=
  W.cell? ⟨wr.heap.size, 0, none⟩ = some (.bool x.f0) ∧ W.cell? ⟨wr.heap.size, 1, none⟩ = some (.string x.f1) ∧ W.cell? ⟨wr.heap.size, 2, none⟩ = some (.slice A2 x.f2.length c2) ∧ W.cell? ⟨w.heap.size, 2, none⟩ = some u ∧ Below w.heap.size w W
theorem TwinS.step {w wr W W' : World} {x : S25} {A2 : Option Addr} {c2 : Nat} {u : Value} (h : TwinS w wr x A2 c2 u W) (hb : Below W.heap.size W W') : TwinS w wr x A2 c2 u W' :=
  ⟨pw_cell_below hb h.1, pw_cell_below hb h.2.1, pw_cell_below hb h.2.2.1, pw_cell_below hb h.2.2.2.1, below_step h.2.2.2.2 hb⟩
theorem cell_away {W : World} {p q : Addr} {u v : Value} (h : W.cell? p = some v) (hne : p.block ≠ q.block) : (W.setCell q u).cell? p = some v := by
  unfold World.cell? at h ⊢
  rw [Below.heap_setCell W q u p.block hne]
  exact h
theorem TwinS.put {w wr W : World} {x : S25} {A2 : Option Addr} {c2 : Nat} {u : Value} (hlt : w.heap.size + 2 < wr.heap.size) (h : TwinS w wr x A2 c2 u W) (i j k : Nat) (a b c : Value) :
    TwinS w wr x A2 c2 u (((W.setCell ⟨w.heap.size + 2, i, none⟩ a).setCell ⟨w.heap.size + 2, j, none⟩ b).setCell ⟨w.heap.size + 2, k, none⟩ c) := by
  have n1 : wr.heap.size ≠ w.heap.size + 2 := by omega
  have n2 : w.heap.size ≠ w.heap.size + 2 := by omega
  exact ⟨cell_away (cell_away (cell_away h.1 n1) n1) n1, cell_away (cell_away (cell_away h.2.1 n1) n1) n1, cell_away (cell_away (cell_away h.2.2.1 n1) n1) n1, cell_away (cell_away (cell_away h.2.2.2.1 n2) n2) n2, ((h.2.2.2.2.setCell (by simp) _).setCell (by simp) _).setCell (by simp) _⟩
theorem TwinAt.next {w wr w1 : World} {t x : S25} {kk : Nat} {cur : Array Value} {vs : Nat → Value} {v : Value} (hX : rd_T25 t.f2 (kk : Int) = x)
    (b1 : wr.heap[w.heap.size]? = some (.cells #[.bool t.f0, .string t.f1, .slice (some ⟨w.heap.size + 2, 0, none⟩) t.f2.length t.f2.length] 25 (0, 0)))
    (b2 : wr.heap[w.heap.size + 1]? = some (.cells #[.bool false, .string ⟨#[]⟩, .slice none 0 0] 25 (0, 0)))
    (b3 : wr.heap[w.heap.size + 2]? = some (.cells cur 25 (0, 0))) (hz : cur.size = t.f2.length * 3)
    (hel : ∀ j, j < kk → cur[j * 3]? = some (.bool (rd_T25 t.f2 (j : Int)).f0) ∧ cur[j * 3 + 1]? = some (.string (rd_T25 t.f2 (j : Int)).f1) ∧ cur[j * 3 + 2]? = some (vs j) ∧ WT wr (fun k => w.heap.size + 3 ≤ k) (vs j) (rd_T25 t.f2 (j : Int)).f2)
    (hb : Below w.heap.size w wr) (hkk : kk < t.f2.length) (hWT : WT w1 (fun k => wr.heap.size ≤ k) v x.f2) (h1 : Below wr.heap.size wr w1) :
    TwinAt w t (kk + 1) (((w1.setCell ⟨w.heap.size + 2, kk * 3, none⟩ (.bool x.f0)).setCell ⟨w.heap.size + 2, kk * 3 + 1, none⟩ (.string x.f1)).setCell ⟨w.heap.size + 2, kk * 3 + 2, none⟩ v) := by
  have hs := blk_lt b3
  have W3 := blk_below b3 h1
  have P := blk_put (blk_put (blk_put W3 (kk * 3) (.bool x.f0) rfl) (kk * 3 + 1) (.string x.f1) rfl) (kk * 3 + 2) v rfl
  refine ⟨blk_far (blk_far (blk_far (blk_below b1 h1) (by simp) _) (by simp) _) (by simp) _, blk_far (blk_far (blk_far (blk_below b2 h1) (by simp) _) (by simp) _) (by simp) _,
    ⟨_, fun j => if j = kk then v else vs j, P, by simp [hz], fun j hj => ?_⟩, (((below_step hb h1).setCell (by simp) _).setCell (by simp) _).setCell (by simp) _⟩
  by_cases hjk : j = kk
  · subst hjk
    simp only [if_true]
    rw [hX]
    refine ⟨?_, ?_, ?_, ?_⟩
    · rw [Array.getElem?_setIfInBounds_ne (by omega), Array.getElem?_setIfInBounds_ne (by omega), Array.getElem?_setIfInBounds_self_of_lt (by omega)]
    · rw [Array.getElem?_setIfInBounds_ne (by omega), Array.getElem?_setIfInBounds_self_of_lt (by simp; omega)]
    · rw [Array.getElem?_setIfInBounds_self_of_lt (by simp; omega)]
    · exact (((hWT.far _ _ (fun k hk => by show k ≠ w.heap.size + 2; omega)).far _ _ (fun k hk => by show k ≠ w.heap.size + 2; omega)).far _ _ (fun k hk => by show k ≠ w.heap.size + 2; omega)).mono (fun k hk => by omega)
  · simp only [if_neg hjk]
    obtain ⟨q0, q1, q2, q3⟩ := hel j (by omega)
    refine ⟨?_, ?_, ?_, ?_⟩
    · rw [Array.getElem?_setIfInBounds_ne (by omega), Array.getElem?_setIfInBounds_ne (by omega), Array.getElem?_setIfInBounds_ne (by omega)]
      exact q0
    · rw [Array.getElem?_setIfInBounds_ne (by omega), Array.getElem?_setIfInBounds_ne (by omega), Array.getElem?_setIfInBounds_ne (by omega)]
      exact q1
    · rw [Array.getElem?_setIfInBounds_ne (by omega), Array.getElem?_setIfInBounds_ne (by omega), Array.getElem?_setIfInBounds_ne (by omega)]
      exact q2
    · exact ((((q3.later h1).far _ _ (fun k hk => by show k ≠ w.heap.size + 2; omega)).far _ _ (fun k hk => by show k ≠ w.heap.size + 2; omega)).far _ _ (fun k hk => by show k ≠ w.heap.size + 2; omega))

set_option maxHeartbeats 2000000 in
set_option maxRecDepth 100000 in
theorem twin_calls : ∀ (n : Nat) (t : S25) (A : Option Addr) (c : Nat) (w : World), szT t ≤ n → szT t ≤ 5864062014805 → k25.C w A t.f2.length t.f2 → t.f2.length ≤ c →
    Calls Try.prog 27 #[.agg #[.bool t.f0, .string t.f1, .slice A t.f2.length c]] w fun e w' => ∃ v, e = .returned (.agg #[.bool t.f0, .string t.f1, v]) ∧ WT w' (fun k => w.heap.size ≤ k) v t.f2 ∧ Below w.heap.size w w'
  | 0, t, A, c, w, h, _, _, _ => by have := szT_pos t; omega
  | n + 1, t, A, c, w, hn, hs, hA, hc => by
    have ih := fun (kk : Nat) (hk : kk < t.f2.length) A' c' W hC hc' => twin_calls n (rd_T25 t.f2 (kk : Int)) A' c' W (by
      have := szL_mem t.f2 _ (getD_mem t.f2 z25 kk hk)
      have h2 : szT t = szL t.f2 + 1 := by cases t; simp [szT]
      show szT (t.f2.getD kk z25) ≤ n
      omega) (by
      have := szL_mem t.f2 _ (getD_mem t.f2 z25 kk hk)
      have h2 : szT t = szL t.f2 + 1 := by cases t; simp [szT]
      show szT (t.f2.getD kk z25) ≤ 5864062014805
      omega) hC hc'
    have hlen : t.f2.length ≤ 5864062014805 := by
      have h2 : szT t = szL t.f2 + 1 := by cases t; simp [szT]
      have h3 := szL_len t.f2
      omega
    have HA := Aside0.mk hA
    have HC := Aside0.mk hc
    have IH := Aside0.mk ih
    clear hA hc ih hs hn
    have hb2 := below_two (w := w) (.cells #[.bool t.f0, .string t.f1, .slice none 0 0] 25) (.cells #[.bool false, .string ⟨#[]⟩, .slice none 0 0] 25)
    have B1 := blk_mid (w := w) (.cells #[.bool t.f0, .string t.f1, .slice none 0 0] 25) (.cells #[.bool false, .string ⟨#[]⟩, .slice none 0 0] 25)
    have B2 := blk_top (w := w) (.cells #[.bool t.f0, .string t.f1, .slice none 0 0] 25) (.cells #[.bool false, .string ⟨#[]⟩, .slice none 0 0] 25)
    rcases Nat.eq_zero_or_pos t.f2.length with h0 | h0
    · have d0 : decide (0 < t.f2.length) = false := decide_eq_false (by omega)
      have HL := List.length_eq_zero_iff.1 h0
      go_enter Try.func27, Try.ntmps27
      go_wp2
      generalize (w.alloc (.cells #[.bool t.f0, .string t.f1, .slice none 0 0] 25)).alloc (.cells #[.bool false, .string ⟨#[]⟩, .slice none 0 0] 25) = W0 at *
      go_loopg [18] 1 (fun gg v18 wr => v18 = .int .i64 0 ∧ wr = W0)
      case atStart => exact ⟨rfl, rfl⟩
      case round =>
        obtain ⟨rfl, rfl⟩ := hrel
        obtain ⟨c0, c1, c2, f0, f1, f2⟩ := box3 B1
        obtain ⟨e0, e1, e2, g0, g1, g2⟩ := box3 B2
        go_wp2
        refine bodyPost_ret (results_cell_row rfl _ _ (w.heap.size + 1) 25 #[.bool t.f0, .string t.f1, .slice none 0 0] (0, 0) _ rfl (set3 B2) Try.underlying25 rfl (by kernel_rfl)) rfl ?_
        exact ⟨_, rfl, by rw [HL]; exact .nil _ _, ((hb2.setCell (by simp) _).setCell (by simp) _).setCell (by simp) _⟩
    · have d0 : decide (0 < t.f2.length) = true := decide_eq_true h0
      have hmk := fun W => run_mkT W t.f2.length hlen
      go_enter Try.func27, Try.ntmps27
      go_wp2_with fail
      obtain ⟨W0, hW0⟩ : ∃ W0, ((w.alloc (.cells #[.bool t.f0, .string t.f1, .slice (some ⟨w.heap.size + 1 + 1, 0, none⟩) t.f2.length t.f2.length] 25)).alloc (.cells #[.bool false, .string ⟨#[]⟩, .slice none 0 0] 25)).alloc (.cells (madeCells #[.bool false, .string ⟨#[]⟩, .slice none 0 0] (t.f2.length * 3)) 25) = W0 := ⟨_, rfl⟩
      have hS0 : TwinAt w t 0 W0 := by
        rw [← hW0]
        refine ⟨blk_alloc (blk_mid _ _) _, blk_alloc (blk_top _ _) _, ⟨madeCells #[.bool false, .string ⟨#[]⟩, .slice none 0 0] (t.f2.length * 3), fun _ => undef, ?_, size_madeCells _ _, fun j hj => absurd hj (by omega)⟩, (below_two _ _).alloc (by simp; omega) _⟩
        have := blk_new ((w.alloc (.cells #[.bool t.f0, .string t.f1, .slice (some ⟨w.heap.size + 1 + 1, 0, none⟩) t.f2.length t.f2.length] 25)).alloc (.cells #[.bool false, .string ⟨#[]⟩, .slice none 0 0] 25)) (.cells (madeCells #[.bool false, .string ⟨#[]⟩, .slice none 0 0] (t.f2.length * 3)) 25)
        simpa using this
      rw [hW0]
      clear hW0 B1 B2 hb2 hmk
      go_loopg [18] t.f2.length (fun gg v18 wr => ∃ kk : Nat, kk ≤ t.f2.length ∧ gg + kk = t.f2.length ∧ v18 = .int .i64 (kk : Int) ∧ Aside0 (TwinAt w t kk wr))
      case atStart => exact ⟨0, by omega, by omega, rfl, ⟨hS0⟩⟩
      case round =>
        obtain ⟨kk, hk1, hk2, rfl, hT⟩ := hrel
        clear hS0
        obtain ⟨B1, B2, ⟨cur, vs, B3, hz, hel⟩, hb⟩ := hT.out
        obtain ⟨c0, c1, c2, f0, f1, f2⟩ := box3 B1
        obtain ⟨e0, e1, e2, g0, g1, g2⟩ := box3 B2
        by_cases hkk : kk < t.f2.length
        · have q0 : decide (kk < t.f2.length) = true := decide_eq_true hkk
          obtain ⟨ad, A2, c2', rfl, hx0, hx1, hx2, hl2, hC2⟩ := at_T25 HA.out (kk : Int) (by omega) (by omega)
          have HCE := fun (W : World) (hw : Below w.heap.size w W) => Kd.C_below hC2 hw
          replace hx0 := pw_cell_below hb hx0
          replace hx1 := pw_cell_below hb hx1
          replace hx2 := pw_cell_below hb hx2
          simp only [Int.toNat_natCast] at hx0 hx1 hx2
          have hcall := fun W (hw : TwinS w wr (rd_T25 t.f2 (kk : Int)) A2 c2' (.slice (some ⟨w.heap.size + 2, 0, none⟩) t.f2.length t.f2.length) W) => (IH.out kk hkk A2 c2' W (HCE W hw.2.2.2.2) hl2).mono (fun _ W' h => show ∃ v, _ ∧ WT W' (fun k => W.heap.size ≤ k) v _ ∧ Below W.heap.size W W' ∧ TwinS w wr (rd_T25 t.f2 (kk : Int)) A2 c2' (.slice (some ⟨w.heap.size + 2, 0, none⟩) t.f2.length t.f2.length) W' from by obtain ⟨v, h1, h2, h3⟩ := h; exact ⟨v, h1, h2, h3, hw.step h3⟩)
          have hlt := blk_lt B3
          clear HCE
          generalize hX : rd_T25 t.f2 (kk : Int) = x at hx0 hx1 hx2 hl2 hC2 hcall
          have HX := Lib.hid hX
          have HEL := Aside0.mk hel
          have HB1 := Aside0.mk B1
          have HB2 := Aside0.mk B2
          have HB3 := Aside0.mk B3
          have HB := Aside0.mk hb
          clear hX hel hb hC2 hT
          have hc0 : cur[kk * 3]? = some cur[kk * 3] := Array.getElem?_eq_getElem (by omega)
          have hc1 : cur[kk * 3 + 1]? = some cur[kk * 3 + 1] := Array.getElem?_eq_getElem (by omega)
          have hc2 : cur[kk * 3 + 2]? = some cur[kk * 3 + 2] := Array.getElem?_eq_getElem (by omega)
          go_wp2_with fail
          have hS1 : TwinS w wr x A2 c2' (.slice (some ⟨w.heap.size + 2, 0, none⟩) t.f2.length t.f2.length) (wr.alloc (.cells #[.bool x.f0, .string x.f1, .slice A2 x.f2.length c2'] 25)).drew := by
            have BN := blk_new wr (.cells #[.bool x.f0, .string x.f1, .slice A2 x.f2.length c2'] 25)
            obtain ⟨n0, n1, n2, _⟩ := box3 BN
            exact ⟨n0, n1, n2, (box3 (blk_alloc HB1.out (.cells #[.bool x.f0, .string x.f1, .slice A2 x.f2.length c2'] 25))).2.2.1, below_drew1 (HB.out.alloc HB.out.size _)⟩
          go_region_held3 (fun W => TwinS w wr x A2 c2' (.slice (some ⟨w.heap.size + 2, 0, none⟩) t.f2.length t.f2.length) W)
            (first | exact hS1 | assumption | exact TwinS.put hlt (by assumption) _ _ _ _ _ _)
            (first | (go_at_call 27; refine (hcall _ (by assumption)).mono ?_; rintro e w1 ⟨v, rfl, hWT, hB1, hN⟩; obtain ⟨A4, c4, hv4, _⟩ := hWT.reads; subst hv4; have hbN := below_step (below_drew1 (below_one (w := wr) (.cells #[.bool x.f0, .string x.f1, .slice A2 x.f2.length c2'] 25))) hB1; have W3 := blk_below HB3.out hbN; have s0 := (blk_cell W3 (kk * 3)).trans hc0; have s1 := (blk_cell W3 (kk * 3 + 1)).trans hc1; have s2 := (blk_cell W3 (kk * 3 + 2)).trans hc2; have r0 := blk_frozen W3 (kk * 3); have r1 := blk_frozen W3 (kk * 3 + 1); have r2 := blk_frozen W3 (kk * 3 + 2)))
          have HR := TwinAt.next (HX.out) HB1.out HB2.out HB3.out hz HEL.out HB.out hkk (hWT.mono (fun k hk => by simp at hk; omega)) hbN
          clear hbN hWT hS1 hcall W3 s0 s1 s2 r0 r1 r2 hc0 hc1 hc2 hx0 hx1 hx2 c0 c1 c2 f0 f1 f2 e0 e1 e2 g0 g1 g2
          try clear hS0
          go_wp2
          go_roundg (t.f2.length - kk - 1)
          case measure => omega
          case rel => exact ⟨kk + 1, by omega, by omega, by simp, ⟨HR⟩⟩
        · have q0 : decide (kk < t.f2.length) = false := decide_eq_false hkk
          obtain rfl : kk = t.f2.length := by omega
          clear hkk
          have HEL := Aside0.mk hel
          clear hel
          go_wp2
          refine bodyPost_ret (results_cell_row rfl _ _ (w.heap.size + 1) 25 #[.bool t.f0, .string t.f1, .slice (some ⟨w.heap.size + 2, 0, none⟩) t.f2.length t.f2.length] (0, 0) _ rfl (set3 B2) Try.underlying25 rfl (by kernel_rfl)) rfl ?_
          refine ⟨_, rfl, .row _ _ cur _ vs h0 (by show w.heap.size ≤ w.heap.size + 2; omega) (blk_far (blk_far (blk_far B3 (by simp) _) (by simp) _) (by simp) _) (Nat.le_refl _) (by omega) hz (fun j hj => (HEL.out j hj).1) (fun j hj => (HEL.out j hj).2.1) (fun j hj => (HEL.out j hj).2.2.1) (fun j hj => ?_), ((hb.setCell (by simp) _).setCell (by simp) _).setCell (by simp) _⟩
          refine WT.mono ((((HEL.out j hj).2.2.2.far _ _ ?_).far _ _ ?_).far _ _ ?_) (fun k hk => Nat.le_trans (by omega) hk)
          all_goals (intro k hk; show k ≠ w.heap.size + 1; omega)

end Go.Proofs.Ytgnklkmifcmlhaa.Q
/- Proved here: the contracts of types.Fun, types.Bool and of the laws' v. Conditions: those that each theorem names. -/
namespace Go.Proofs.Ytgnklkmifcmlhaa.Q
open Go.RowKit Go.Shelf Go.Proofs.YtgnklkmifcmlhaaW.PrintWords Go.Proofs.YtgnklkmifcmlhaaW.PrintMore
set_option linter.unusedVariables false
set_option linter.unusedSimpArgs false
attribute [local go_sem] Oper.semAt_some

def funN : ByteArray := ⟨#[102, 117, 110]⟩
def boolN : ByteArray := ⟨#[98, 111, 111, 108]⟩
theorem below_three {w : World} (o o' o'' : Obj) : Below w.heap.size w (((w.alloc o).alloc o').alloc o'') := (below_two o o').alloc (by simp; omega) _
theorem blk_third {w : World} (o o' o'' : Obj) : (((w.alloc o).alloc o').alloc o'').heap[w.heap.size + 2]? = some o'' := by have := blk_new ((w.alloc o).alloc o') o''; simpa using this
theorem WT_two {w : World} {ok : Nat → Prop} {g : Nat} {x y : S25} {u v : Value} (hg : ok g) (hb : w.heap[g]? = some (.cells #[.bool x.f0, .string x.f1, u, .bool y.f0, .string y.f1, v] 25 (0, 0))) (hu : WT w ok u x.f2) (hv : WT w ok v y.f2) :
    WT w ok (.slice (some ⟨g, 0, none⟩) 2 2) [x, y] := by
  refine WT.row g 2 _ [x, y] (fun j => if j = 0 then u else v) (by simp) hg hb (by simp) (by omega) rfl ?_ ?_ ?_ ?_
  all_goals intro j hj
  all_goals (obtain rfl | rfl : j = 0 ∨ j = 1 := by simp at hj; omega)
  all_goals first | rfl | exact hu | exact hv

set_option maxHeartbeats 2000000 in
set_option maxRecDepth 100000 in
theorem bool_calls (w : World) : Calls Try.prog 38 #[] w fun e w' => e = .returned (.agg #[.bool false, .string boolN, .slice none 0 0]) ∧ Below w.heap.size w w' := by
  have BK := blk_new w (.cells #[.bool false, .string ⟨#[]⟩, .slice none 0 0] 25)
  have hb0 := below_one (w := w) (.cells #[.bool false, .string ⟨#[]⟩, .slice none 0 0] 25)
  obtain ⟨x0, x1, x2, x3, x4, x5, x6⟩ := box3s BK
  go_enter Try.func38, Try.ntmps38
  go_wp2_with fail
  refine bodyPost_ret (results_cell_row rfl _ _ w.heap.size 25 #[.bool false, .string boolN, .slice none 0 0] (0, 0) _ rfl (blk_new w _) Try.underlying25 rfl (by kernel_rfl)) rfl ?_
  exact ⟨rfl, below_one _⟩
set_option maxHeartbeats 2000000 in
set_option maxRecDepth 100000 in
theorem v_calls (n : ByteArray) (w : World) : Calls Try.prog 43 #[.string n] w fun e w' => e = .returned (.agg #[.bool true, .string n, .slice none 0 0]) ∧ Below w.heap.size w w' := by
  have BK := blk_new w (.cells #[.bool false, .string ⟨#[]⟩, .slice none 0 0] 25)
  have hb0 := below_one (w := w) (.cells #[.bool false, .string ⟨#[]⟩, .slice none 0 0] 25)
  obtain ⟨x0, x1, x2, x3, x4, x5, x6⟩ := box3s BK
  go_enter Try.func43, Try.ntmps43
  go_wp2_with fail
  refine bodyPost_ret (results_cell_row rfl _ _ w.heap.size 25 #[.bool true, .string n, .slice none 0 0] (0, 0) _ rfl (blk_new w _) Try.underlying25 rfl (by kernel_rfl)) rfl ?_
  exact ⟨rfl, below_one _⟩
abbrev FunS (w : World) (x y : S25) (A : Option Addr) (c : Nat) (B : Option Addr) (d : Nat) (W : World) : Prop :=
  W.cell? ⟨w.heap.size, 0, none⟩ = some (.bool x.f0) ∧ W.cell? ⟨w.heap.size, 1, none⟩ = some (.string x.f1) ∧ W.cell? ⟨w.heap.size, 2, none⟩ = some (.slice A x.f2.length c) ∧
    W.cell? ⟨w.heap.size + 1, 0, none⟩ = some (.bool y.f0) ∧ W.cell? ⟨w.heap.size + 1, 1, none⟩ = some (.string y.f1) ∧ W.cell? ⟨w.heap.size + 1, 2, none⟩ = some (.slice B y.f2.length d) ∧ Below w.heap.size w W
theorem FunS.step {w : World} {x y : S25} {A : Option Addr} {c : Nat} {B : Option Addr} {d : Nat} {W W' : World} (h : FunS w x y A c B d W) (hb : Below W.heap.size W W') : FunS w x y A c B d W' :=
  ⟨pw_cell_below hb h.1, pw_cell_below hb h.2.1, pw_cell_below hb h.2.2.1, pw_cell_below hb h.2.2.2.1, pw_cell_below hb h.2.2.2.2.1, pw_cell_below hb h.2.2.2.2.2.1, below_step h.2.2.2.2.2.2 hb⟩
theorem FunS.put {w : World} {x y : S25} {A : Option Addr} {c : Nat} {B : Option Addr} {d : Nat} {W : World} (h : FunS w x y A c B d W) (p q r : Value) : FunS w x y A c B d (((W.setCell ⟨w.heap.size + 2, 0, none⟩ p).setCell ⟨w.heap.size + 2, 1, none⟩ q).setCell ⟨w.heap.size + 2, 2, none⟩ r) := by
  have n0 : w.heap.size ≠ w.heap.size + 2 := by omega
  have n1 : w.heap.size + 1 ≠ w.heap.size + 2 := by omega
  obtain ⟨h0, h1, h2, h3, h4, h5, h6⟩ := h
  exact ⟨cell_away (cell_away (cell_away h0 n0) n0) n0, cell_away (cell_away (cell_away h1 n0) n0) n0, cell_away (cell_away (cell_away h2 n0) n0) n0, cell_away (cell_away (cell_away h3 n1) n1) n1, cell_away (cell_away (cell_away h4 n1) n1) n1, cell_away (cell_away (cell_away h5 n1) n1) n1, ((h6.setCell (by simp) _).setCell (by simp) _).setCell (by simp) _⟩
set_option maxHeartbeats 2000000 in
set_option maxRecDepth 100000 in
theorem fun_calls (x y : S25) (A : Option Addr) (c : Nat) (B : Option Addr) (d : Nat) (w : World) (hA : k25.C w A x.f2.length x.f2) (hc : x.f2.length ≤ c) (hB : k25.C w B y.f2.length y.f2) (hd : y.f2.length ≤ d) (hx : szT x ≤ 5864062014805) (hy : szT y ≤ 5864062014805) :
    Calls Try.prog 36 #[.agg #[.bool x.f0, .string x.f1, .slice A x.f2.length c], .agg #[.bool y.f0, .string y.f1, .slice B y.f2.length d]] w fun e w' => ∃ v, e = .returned (.agg #[.bool false, .string funN, v]) ∧ WT w' (fun k => w.heap.size ≤ k) v [x, y] ∧ Below w.heap.size w w' := by
  have hb0 := below_three (w := w) (.cells #[.bool x.f0, .string x.f1, .slice A x.f2.length c] 25) (.cells #[.bool y.f0, .string y.f1, .slice B y.f2.length d] 25) (.cells #[.bool false, .string ⟨#[]⟩, .slice none 0 0] 25)
  have B0 := blk_alloc (blk_mid (w := w) (.cells #[.bool x.f0, .string x.f1, .slice A x.f2.length c] 25) (.cells #[.bool y.f0, .string y.f1, .slice B y.f2.length d] 25)) (.cells #[.bool false, .string ⟨#[]⟩, .slice none 0 0] 25)
  have C0 := blk_alloc (blk_top (w := w) (.cells #[.bool x.f0, .string x.f1, .slice A x.f2.length c] 25) (.cells #[.bool y.f0, .string y.f1, .slice B y.f2.length d] 25)) (.cells #[.bool false, .string ⟨#[]⟩, .slice none 0 0] 25)
  have D0 := blk_third (w := w) (.cells #[.bool x.f0, .string x.f1, .slice A x.f2.length c] 25) (.cells #[.bool y.f0, .string y.f1, .slice B y.f2.length d] 25) (.cells #[.bool false, .string ⟨#[]⟩, .slice none 0 0] 25)
  have hta := fun W (hw : FunS w x y A c B d W) => (twin_calls (szT x) x A c W (Nat.le_refl _) hx (Kd.C_below hA hw.2.2.2.2.2.2) hc).mono (fun _ W' h => show ∃ v, _ ∧ WT W' (fun k => W.heap.size ≤ k) v _ ∧ Below W.heap.size W W' ∧ FunS w x y A c B d W' from by obtain ⟨v, h1, h2, h3⟩ := h; exact ⟨v, h1, h2, h3, hw.step h3⟩)
  have htb := fun W (hw : FunS w x y A c B d W) => (twin_calls (szT y) y B d W (Nat.le_refl _) hy (Kd.C_below hB hw.2.2.2.2.2.2) hd).mono (fun _ W' h => show ∃ v, _ ∧ WT W' (fun k => W.heap.size ≤ k) v _ ∧ Below W.heap.size W W' ∧ FunS w x y A c B d W' from by obtain ⟨v, h1, h2, h3⟩ := h; exact ⟨v, h1, h2, h3, hw.step h3⟩)
  obtain ⟨a0, a1, a2, _, _, _, _⟩ := box3s B0
  obtain ⟨b0, b1, b2, _, _, _, _⟩ := box3s C0
  clear hA hB
  go_enter Try.func36, Try.ntmps36
  go_wp2_with fail
  obtain ⟨W0, hW0⟩ : ∃ W0, ((w.alloc (.cells #[.bool x.f0, .string x.f1, .slice A x.f2.length c] 25)).alloc (.cells #[.bool y.f0, .string y.f1, .slice B y.f2.length d] 25)).alloc (.cells #[.bool false, .string ⟨#[]⟩, .slice none 0 0] 25) = W0 := ⟨_, rfl⟩
  have hsz : W0.heap.size = w.heap.size + 3 := by rw [← hW0]; simp
  rw [hW0] at hb0 B0 C0 D0 a0 a1 a2 b0 b1 b2 ⊢
  clear hW0 B0 C0
  have hS0 : FunS w x y A c B d W0.drew := ⟨a0, a1, a2, b0, b1, b2, below_drew1 hb0⟩
  go_region_held3 (fun W => FunS w x y A c B d W)
    (first | (with_reducible exact hS0) | (with_reducible assumption) | (with_reducible exact FunS.step (by assumption) (below_one _)) | exact FunS.step (FunS.put (by with_reducible assumption) _ _ _) (below_one _))
    (first
      | (go_at_call 27; (with_reducible refine (htb _ (by with_reducible assumption)).mono ?_); rintro e w2 ⟨v2, rfl, hT2, hc2, hN⟩; have D2 := blk_below D1 hc2; obtain ⟨A2, c2, hv2, _⟩ := hT2.reads; subst hv2; have hT1' := hT1.later hc2; obtain ⟨x0, x1, x2, x3, x4, x5, x6⟩ := box3s D2)
      | (go_at_call 27; (with_reducible refine (hta _ (by with_reducible assumption)).mono ?_); rintro e w1 ⟨v1, rfl, hT1, hc1, hN⟩; have hbN := below_step (below_drew1 (Below.refl _ W0)) hc1; have D1 := blk_below D0 hbN; obtain ⟨A1, c1, hv1, _⟩ := hT1.reads; subst hv1))
  have hb2 := hN.2.2.2.2.2.2
  have z1 := hc1.size
  have z2 := hc2.size
  simp only [World.size_drew] at z1
  go_wp2
  refine bodyPost_ret (results_cell_row rfl _ _ (w.heap.size + 2) 25 #[.bool false, .string funN, .slice (some ⟨w2.heap.size, 0, none⟩) 2 2] (0, 0) _ rfl (blk_alloc (set3 D2) _) Try.underlying25 rfl (by kernel_rfl)) rfl ?_
  have hfar : ∀ {v : Value} {l : List S25} (o : Obj) (p q r : Value), WT w2 (fun k => w.heap.size + 3 ≤ k) v l → WT ((((w2.setCell ⟨w.heap.size + 2, 0, none⟩ p).setCell ⟨w.heap.size + 2, 1, none⟩ q).setCell ⟨w.heap.size + 2, 2, none⟩ r).alloc o) (fun k => w.heap.size ≤ k) v l := by
    intro v l o p q r h
    refine WT.mono ((((h.far _ _ ?_).far _ _ ?_).far _ _ ?_).later (below_one _)) (fun k hk => by omega)
    all_goals (intro k hk; show k ≠ w.heap.size + 2; omega)
  refine ⟨_, rfl, WT_two (by omega) ?_ (hfar _ _ _ _ (hT1'.mono (fun k hk => by simp at hk; omega))) (hfar _ _ _ _ (hT2.mono (fun k hk => by omega))), (((hb2.setCell (by simp; omega) _).setCell (by simp; omega) _).setCell (by simp; omega) _).alloc (by have := hb2.size; simp; omega) _⟩
  have hnew := blk_new (((w2.setCell ⟨w.heap.size + 2, 0, none⟩ (.bool false)).setCell ⟨w.heap.size + 2, 1, none⟩ (.string ⟨#[102, 117, 110]⟩)).setCell ⟨w.heap.size + 2, 2, none⟩ (.slice (some ⟨w2.heap.size, 0, none⟩) 2 2)) (.cells #[.bool x.f0, .string x.f1, .slice A1 x.f2.length c1, .bool y.f0, .string y.f1, .slice A2 y.f2.length c2] 25)
  simpa using hnew
end Go.Proofs.Ytgnklkmifcmlhaa.Q
/- Proved here: what the printed functions on sizes, names and shapes of types answer in the end. Conditions: those that each theorem names. -/
namespace Go.Proofs.Ytgnklkmifcmlhaa.Q
open Go.RowKit Go.Proofs.YtgnklkmifcmlhaaW.PrintWords Go.Proofs.YtgnklkmifcmlhaaW.PrintMore
set_option linter.unusedVariables false
set_option linter.unusedSimpArgs false

/-! ### What a function with a purse answers in the end -/
def Ev {α : Type} (f : Nat → Option α) (r : α) : Prop := ∃ K, ∀ k, K ≤ k → f k = some r
theorem Ev.pure {α : Type} (r : α) : Ev (fun _ => some r) r := ⟨0, fun _ _ => rfl⟩
theorem Ev.bind {α β : Type} {f : Nat → Option α} {g : α → Nat → Option β} {a : α} {r : β} (h : Ev f a) (h2 : Ev (fun k => g a k) r) : Ev (fun k => (f k).bind fun x => g x k) r := by
  obtain ⟨K, hK⟩ := h
  obtain ⟨K2, hK2⟩ := h2
  exact ⟨K + K2, fun k hk => by show (f k).bind _ = _; rw [hK k (by omega), Option.bind_some]; exact hK2 k (by omega)⟩
theorem Ev.succ {α : Type} {f : Nat → Option α} {r : α} (h : Ev (fun k => f (k + 1)) r) : Ev f r := by
  obtain ⟨K, hK⟩ := h
  exact ⟨K + 1, fun k hk => by
    obtain ⟨k', rfl⟩ : ∃ k', k = k' + 1 := ⟨k - 1, by omega⟩
    exact hK k' (by omega)⟩
theorem Ev.cong {α : Type} {f g : Nat → Option α} {r : α} (h : Ev g r) (e : ∀ k, f k = g k) : Ev f r := by
  obtain ⟨K, hK⟩ := h
  exact ⟨K, fun k hk => (e k).trans (hK k hk)⟩
theorem Ev.val {α : Type} {f : Nat → Option α} {r r' : α} (h : Ev f r) (e : r = r') : Ev f r' := e ▸ h
theorem Ev.at {α : Type} {f : Nat → Option α} {r : α} (h : Ev f r) : ∃ k, f k = some r := by
  obtain ⟨K, hK⟩ := h
  exact ⟨K, hK K (Nat.le_refl _)⟩
theorem down (P : Nat → Prop) (n : Nat) (hn : P n) (hs : ∀ j, j < n → P (j + 1) → P j) : P 0 := by
  have : ∀ d j, j + d = n → P j := by
    intro d
    induction d with
    | zero => intro j hj; have e : j = n := by omega
              rw [e]; exact hn
    | succ d ih => intro j hj; exact hs j (by omega) (ih (j + 1) (by omega))
  exact this n 0 (by omega)
theorem Ev.ite {α : Type} {c : Prop} [Decidable c] {f g : Nat → Option α} {r : α} (h : c → Ev f r) (h2 : ¬ c → Ev g r) : Ev (fun k => if c then f k else g k) r := by
  by_cases hc : c
  · exact (h hc).cong (fun k => if_pos hc)
  · exact (h2 hc).cong (fun k => if_neg hc)
theorem Ev.pos {α : Type} {c : Prop} [Decidable c] {f g : Nat → Option α} {r : α} (hc : c) (h : Ev f r) : Ev (fun k => if c then f k else g k) r := h.cong (fun k => if_pos hc)
theorem Ev.neg {α : Type} {c : Prop} [Decidable c] {f g : Nat → Option α} {r : α} (hc : ¬ c) (h : Ev g r) : Ev (fun k => if c then f k else g k) r := h.cong (fun k => if_neg hc)
theorem w64 {x : Int} (h0 : -9223372036854775808 ≤ x) (h1 : x < 9223372036854775808) : wrap64 x = x := by unfold wrap64; omega
theorem w64s {j : Nat} (h : j < 9223372036854775807) : wrap64 ((j : Int) + 1) = ((j + 1 : Nat) : Int) := by rw [w64 (by omega) (by omega)]; omega
theorem rdT (l : List S25) (j : Nat) (h : j < l.length) : rd_T25 l (j : Int) = l[j] := by
  unfold rd_T25
  simp only [Int.toNat_natCast]
  rw [List.getD_eq_getElem?_getD, List.getElem?_eq_getElem h]
  rfl

theorem szL_take (l : List S25) (j : Nat) (h : j < l.length) : szL (l.take (j + 1)) = szL (l.take j) + szT l[j] := by
  induction l generalizing j with
  | nil => simp at h
  | cons a l ih =>
    cases j with
    | zero => simp [szL]
    | succ j =>
      simp only [List.length_cons] at h
      simp only [List.take_succ_cons, szL, List.getElem_cons_succ]
      rw [ih j (by omega)]
      omega
theorem szL_le (l : List S25) (j : Nat) (h : j < l.length) : szL (l.take j) + szT l[j] ≤ szL l := by
  rw [← szL_take l j h]
  have : ∀ (l : List S25) (n : Nat), szL (l.take n) ≤ szL l := by
    intro l
    induction l with
    | nil => intro n; simp
    | cons a l ih =>
      intro n
      cases n with
      | zero => simp [szL]
      | succ n => simp only [List.take_succ_cons, szL]; have := ih n; omega
  exact this l (j + 1)
mutual
def dpT : S25 → Nat
  | ⟨_, _, l⟩ => dpL l + 1
def dpL : List S25 → Nat
  | [] => 0
  | a :: l => max (dpT a) (dpL l)
end
theorem dpT_eq (t : S25) : dpT t = dpL t.f2 + 1 := by cases t; simp [dpT]
theorem dpL_take (l : List S25) (j : Nat) (h : j < l.length) : dpL (l.take (j + 1)) = max (dpL (l.take j)) (dpT l[j]) := by
  induction l generalizing j with
  | nil => simp at h
  | cons a l ih =>
    cases j with
    | zero => simp [dpL]
    | succ j =>
      simp only [List.length_cons] at h
      simp only [List.take_succ_cons, dpL, List.getElem_cons_succ]
      rw [ih j (by omega)]
      omega
mutual
theorem dpT_le : ∀ t : S25, dpT t ≤ szT t
  | ⟨_, _, l⟩ => by simp only [dpT, szT]; have := dpL_le l; omega
theorem dpL_le : ∀ l : List S25, dpL l ≤ szL l
  | [] => by simp [dpL, szL]
  | a :: l => by simp only [dpL, szL]; have := dpT_le a; have := dpL_le l; omega
end
/-- Induction over trees. -/
theorem S_ind {P : S25 → Prop} (h : ∀ t, (∀ x, x ∈ t.f2 → P x) → P t) (t : S25) : P t := by
  have : ∀ n t, szT t ≤ n → P t := by
    intro n
    induction n with
    | zero => intro t ht; have := szT_pos t; omega
    | succ n ih =>
      intro t ht
      refine h t (fun x hx => ih x ?_)
      have := szL_mem t.f2 x hx
      have := szT_eq t
      omega
  exact this _ t (Nat.le_refl _)

theorem size_ev (t : S25) : szT t ≤ 4611686018427387904 → Ev (fun k => types_Size.f k t.f0 t.f1 t.f2) (szT t : Int) := by
  induction t using S_ind with
  | _ t ih =>
  intro hb
  rw [szT_eq] at hb ⊢
  refine Ev.succ ?_
  simp only [types_Size.f]
  have hl := szL_len t.f2
  refine Ev.cong (down (fun j => Ev (fun k => types_Size.l0 k ((1 + szL (t.f2.take j) : Nat) : Int) t.f2 (t.f2.length : Int) (j : Int)) ((szL t.f2 + 1 : Nat) : Int)) t.f2.length ?_ ?_) (fun k => by simp [szL])
  · refine Ev.succ ?_
    simp only [types_Size.l0, List.take_length]
    refine Ev.neg (by omega) (?_)
    exact (Ev.pure _).val (by omega)
  · intro j hj h
    refine Ev.succ ?_
    have hle := szL_le t.f2 j hj
    simp only [types_Size.l0]
    refine Ev.pos (by omega) (Ev.pos (by omega) (Ev.pos (by omega) (?_)))
    rw [rdT t.f2 j hj]
    refine Ev.bind (ih _ (List.getElem_mem hj) (by omega)) ?_
    rw [w64s (by omega), w64 (by omega) (by omega)]
    rw [szL_take t.f2 j hj] at h
    exact h.cong (fun k => by congr 1; omega)
theorem mx_nat (a b : Nat) : mx (a : Int) (b : Int) = ((max a b : Nat) : Int) := by
  unfold mx
  split <;> omega
theorem depth_ev (t : S25) : szT t ≤ 4611686018427387904 → Ev (fun k => types_depth.f k t.f0 t.f1 t.f2) (dpT t : Int) := by
  induction t using S_ind with
  | _ t ih =>
  intro hb
  have hd := dpT_le t
  rw [szT_eq] at hb hd
  rw [dpT_eq] at hd ⊢
  refine Ev.succ ?_
  simp only [types_depth.f]
  have hl := szL_len t.f2
  refine Ev.cong (down (fun j => Ev (fun k => types_depth.l0 k ((dpL (t.f2.take j) : Nat) : Int) t.f2 (t.f2.length : Int) (j : Int)) ((dpL t.f2 + 1 : Nat) : Int)) t.f2.length ?_ ?_) (fun k => by simp [dpL])
  · refine Ev.succ ?_
    simp only [types_depth.l0, List.take_length]
    refine Ev.neg (by omega) (?_)
    rw [w64 (by omega) (by omega)]
    exact (Ev.pure _).val (by omega)
  · intro j hj h
    refine Ev.succ ?_
    have hle := szL_le t.f2 j hj
    simp only [types_depth.l0]
    refine Ev.pos (by omega) (Ev.pos (by omega) (Ev.pos (by omega) (?_)))
    rw [rdT t.f2 j hj]
    refine Ev.bind (ih _ (List.getElem_mem hj) (by omega)) ?_
    rw [w64s (by omega), mx_nat]
    rw [dpL_take t.f2 j hj] at h
    exact h
/-! ### names -/
def okC (c : Int) : Bool := !(decide (c < 33) || decide (c > 126) || c == 40 || c == 41 || c == 44 || c == 58 || c == 92 || c == 46 || c == 34)
def okFrom (s : ByteArray) : Nat → Nat → Bool
  | 0, _ => true
  | d + 1, j => okC (bt s (j : Int)) && okFrom s d (j + 1)
def nameB (s : ByteArray) : Bool := decide (0 < s.size) && decide (s.size ≤ 30) && okFrom s s.size 0
def varB (s : ByteArray) : Bool := nameB s && (bt s 0 == 39)
theorem toList_nil (s : ByteArray) : s.toList = [] ↔ s.size = 0 := by
  rw [Go.ByteArray.toList_eq, ← data_length s]
  exact List.length_eq_zero_iff.symm
theorem name_j1 (s : ByteArray) (c n i : Int) (b r : Bool) (h : Ev (fun k => types_name.l0 k s n (wrap64 (i + 1))) r) : Ev (fun k => types_name.j1 k s c n i b) (!b && !decide (c < 33) && !decide (c > 126) && r) := by
  refine Ev.succ ?_
  simp only [types_name.j1]
  refine Ev.ite (fun e => (Ev.pure _).val (by simp [e])) (fun e => Ev.ite (fun e2 => (Ev.pure _).val (by simp [e2])) (fun e2 => Ev.ite (fun e3 => (Ev.pure _).val (by simp [e3])) (fun e3 => h.val ?_)))
  rw [Bool.not_eq_true] at e
  simp [e, e2, e3]
theorem name_l0 (s : ByteArray) (hs : s.size ≤ 4611686018427387904) : ∀ (d j : Nat), j + d = s.size → Ev (fun k => types_name.l0 k s (s.size : Int) (j : Int)) (okFrom s d j && (decide (0 < s.size) && decide (s.size ≤ 30)))
  | 0, j, hj => by
    refine Ev.succ ?_
    simp only [types_name.l0]
    refine Ev.neg (by omega) (?_)
    refine Ev.ite (fun e => (Ev.pure _).val ?_) (fun e => (Ev.pure _).val ?_)
    · rw [toList_nil] at e
      simp [okFrom, e]
    · rw [toList_nil] at e
      have h0 : 0 < s.size := by omega
      simp only [okFrom, h0, decide_true, Bool.true_and]
      exact decide_eq_decide.2 (by omega)
  | d + 1, j, hj => by
    have ih := name_l0 s hs d (j + 1) (by omega)
    refine Ev.succ ?_
    simp only [types_name.l0]
    refine Ev.pos (by omega) (Ev.pos (by omega) (Ev.pos (by omega) (?_)))
    rw [← w64s (by omega)] at ih
    have hj1 := fun b => name_j1 s (bt s (j : Int)) (s.size : Int) (j : Int) b _ ih
    simp only [okFrom]
    generalize bt s (j : Int) = c at *
    generalize HR : (okFrom s d (j + 1) && (decide (0 < s.size) && decide (s.size ≤ 30))) = r at *
    refine Ev.ite (fun e => (hj1 _).val ?_) (fun e => Ev.ite (fun e2 => (hj1 _).val ?_) (fun e2 => Ev.ite (fun e3 => (hj1 _).val ?_) (fun e3 => Ev.ite (fun e4 => (hj1 _).val ?_) (fun e4 => Ev.ite (fun e5 => (hj1 _).val ?_) (fun e5 => Ev.ite (fun e6 => (hj1 _).val ?_) (fun e6 => (hj1 _).val ?_))))))
    · simp [okC, e]
    · simp [okC, e2]
    · simp [okC, e3]
    · simp [okC, e4]
    · simp [okC, e5]
    · simp [okC, e6]
    · simp only [okC, beq_eq_false_iff_ne.mpr e, beq_eq_false_iff_ne.mpr e2, beq_eq_false_iff_ne.mpr e3, beq_eq_false_iff_ne.mpr e4, beq_eq_false_iff_ne.mpr e5, beq_eq_false_iff_ne.mpr e6, Bool.or_false]
      rw [← HR]
      cases (c == 34) <;> cases decide (c < 33) <;> cases decide (c > 126) <;> simp [Bool.and_assoc]
theorem name_ev (s : ByteArray) (hs : s.size ≤ 4611686018427387904) : Ev (fun k => types_name.f k s) (nameB s) := by
  simp only [types_name.f]
  refine (name_l0 s hs s.size 0 (by omega)).val ?_
  unfold nameB
  cases okFrom s s.size 0 <;> simp
theorem nameB_pos {s : ByteArray} (h : nameB s = true) : 0 < s.size := by
  unfold nameB at h
  simp only [Bool.and_eq_true, decide_eq_true_eq] at h
  exact h.1.1
theorem variable_ev (s : ByteArray) (hs : s.size ≤ 4611686018427387904) : Ev (fun k => types_variable.f k s) (varB s) := by
  simp only [types_variable.f]
  unfold varB
  refine Ev.bind (name_ev s hs) (Ev.ite (fun e => Ev.pos (by have := nameB_pos e; omega) ((Ev.pure _).val (by simp [e]))) (fun e => (Ev.pure _).val (by simp [e])))
/-! ### types -/
def headB (v : Bool) (n : ByteArray) (m : Nat) : Bool := nameB n && (if v = true then (bt n 0 == 39) && (m == 0) else !(bt n 0 == 39) && decide (m ≤ 8))
mutual
def shB : S25 → Bool
  | ⟨v, n, l⟩ => headB v n l.length && shBL l
def shBL : List S25 → Bool
  | [] => true
  | a :: l => shB a && shBL l
end
theorem shB_eq (t : S25) : shB t = (headB t.f0 t.f1 t.f2.length && shBL t.f2) := by cases t; simp [shB]
theorem shBL_take (l : List S25) (j : Nat) (h : j < l.length) : shBL (l.take (j + 1)) = (shBL (l.take j) && shB l[j]) := by
  induction l generalizing j with
  | nil => simp at h
  | cons a l ih =>
    cases j with
    | zero => simp [shBL]
    | succ j =>
      simp only [List.length_cons] at h
      simp only [List.take_succ_cons, shBL, List.getElem_cons_succ]
      rw [ih j (by omega), Bool.and_assoc]
mutual
def allT (P : S25 → Prop) : S25 → Prop
  | ⟨v, n, l⟩ => P ⟨v, n, l⟩ ∧ allL P l
def allL (P : S25 → Prop) : List S25 → Prop
  | [] => True
  | a :: l => allT P a ∧ allL P l
end
theorem allT_eq (P : S25 → Prop) (t : S25) : allT P t ↔ P t ∧ allL P t.f2 := by cases t; simp [allT]
theorem allL_mem (P : S25 → Prop) : ∀ (l : List S25), allL P l ↔ ∀ x, x ∈ l → allT P x
  | [] => by simp [allL]
  | a :: l => by simp [allL, allL_mem P l]
/-- What any machine can hold. -/
def okS (s : ByteArray) : Prop := s.size ≤ 4611686018427387904
def fit (t : S25) : Prop := szT t ≤ 4611686018427387904 ∧ allT (fun x => okS x.f1) t
theorem fit_mem {t x : S25} (h : fit t) (hx : x ∈ t.f2) : fit x := by
  have h1 := szL_mem t.f2 x hx
  have h2 := szT_eq t
  exact ⟨by have := h.1; omega, (allL_mem _ _).1 ((allT_eq _ t).1 h.2).2 x hx⟩
theorem fit_name {t : S25} (h : fit t) : t.f1.size ≤ 4611686018427387904 := ((allT_eq _ t).1 h.2).1

theorem nat_beq0 (n : Nat) : ((n : Int) == 0) = (n == 0) := by
  cases n with
  | zero => rfl
  | succ n => rw [beq_eq_false_iff_ne.mpr (show ((n + 1 : Nat) : Int) ≠ 0 by omega), beq_eq_false_iff_ne.mpr (show n + 1 ≠ 0 by omega)]
theorem measure_ev (t : S25) : fit t → Ev (fun k => types_measure.f k t.f0 t.f1 t.f2) ((szT t : Int), (dpT t : Int), shB t) := by
  induction t using S_ind with
  | _ t ih =>
  intro hf
  have hb := hf.1
  have hd := dpT_le t
  rw [szT_eq] at hb hd
  rw [dpT_eq] at hd
  have hl := szL_len t.f2
  have hloop : ∀ (b : Bool) a0 a1, Ev (fun k => types_measure.j0 k 1 0 b a0 a1 t.f2) ((szT t : Int), (dpT t : Int), b && shBL t.f2) := by
    intro b a0 a1
    refine Ev.succ ?_
    simp only [types_measure.j0]
    refine Ev.cong (down (fun j => Ev (fun k => types_measure.l0 k ((1 + szL (t.f2.take j) : Nat) : Int) ((dpL (t.f2.take j) : Nat) : Int) (b && shBL (t.f2.take j)) t.f2 (t.f2.length : Int) (j : Int)) ((szT t : Int), (dpT t : Int), b && shBL t.f2)) t.f2.length ?_ ?_) (fun k => by simp [szL, dpL, shBL])
    · refine Ev.succ ?_
      simp only [types_measure.l0, List.take_length]
      refine Ev.neg (by omega) ((Ev.pure _).val ?_)
      rw [szT_eq, dpT_eq, w64 (by omega) (by omega)]
      exact Prod.ext (by simp; omega) (Prod.ext (by simp) rfl)
    · intro j hj h
      refine Ev.succ ?_
      have hle := szL_le t.f2 j hj
      simp only [types_measure.l0]
      refine Ev.pos (by omega) (Ev.pos (by omega) (Ev.pos (by omega) ?_))
      rw [rdT t.f2 j hj]
      refine Ev.bind (ih _ (List.getElem_mem hj) (fit_mem hf (List.getElem_mem hj))) ?_
      dsimp only
      rw [w64s (by omega), mx_nat, w64 (by omega) (by omega)]
      rw [szL_take t.f2 j hj, dpL_take t.f2 j hj, shBL_take t.f2 j hj] at h
      refine Ev.ite (fun e => ?_) (fun e => ?_)
      · simp only [Bool.and_eq_true] at e
        rw [e.1, e.2] at h
        simp only [Bool.true_and] at h
        rw [e.1]
        exact h.cong (fun k => by congr 1; omega)
      · have e2 : (b && (shBL (t.f2.take j) && shB t.f2[j])) = false := by
          rw [← Bool.and_assoc]
          rw [Bool.not_eq_true] at e
          rw [e]
          rfl
        rw [e2] at h
        exact h.cong (fun k => by congr 1; omega)
  have hn := fit_name hf
  refine Ev.succ ?_
  simp only [types_measure.f]
  rw [shB_eq]
  unfold headB
  refine Ev.ite (fun e => ?_) (fun e => ?_)
  · refine Ev.bind (variable_ev _ hn) (Ev.ite (fun e2 => (hloop _ _ _).val ?_) (fun e2 => (hloop _ _ _).val ?_))
    · unfold varB at e2
      simp only [Bool.and_eq_true] at e2
      rw [if_pos e, e2.1, e2.2, nat_beq0]
      simp
    · unfold varB at e2
      rw [Bool.not_eq_true] at e2
      rw [if_pos e, ← Bool.and_assoc, e2]
      simp
  · rw [if_neg e]
    refine Ev.bind (name_ev _ hn) (Ev.ite (fun e2 => Ev.pos (by have := nameB_pos e2; omega) (Ev.ite (fun e3 => (hloop _ _ _).val ?_) (fun e3 => (hloop _ _ _).val ?_))) (fun e2 => (hloop _ _ _).val ?_))
    · simp [e3]
    · rw [e2, beq_eq_false_iff_ne.mpr e3, show decide ((t.f2.length : Int) ≤ 8) = decide (t.f2.length ≤ 8) from decide_eq_decide.2 (by omega)]
      simp
    · rw [Bool.not_eq_true] at e2
      rw [e2]
      simp
def chkB (t : S25) : Bool := shB t && decide (szT t ≤ 500) && decide (dpT t ≤ 200)
theorem check_ev (t : S25) (hf : fit t) : Ev (fun k => types_Check.f k t.f0 t.f1 t.f2) (if chkB t = true then 0 else 10) := by
  simp only [types_Check.f]
  unfold chkB
  refine Ev.bind (measure_ev t hf) ?_
  dsimp only
  refine Ev.ite (fun e => Ev.ite (fun e2 => (Ev.pure _).val ?_) (fun e2 => Ev.ite (fun e3 => (Ev.pure _).val ?_) (fun e3 => (Ev.pure _).val ?_))) (fun e => (Ev.pure _).val ?_)
  · rw [decide_eq_false (show ¬ szT t ≤ 500 by omega)]
    simp
  · rw [decide_eq_false (show ¬ dpT t ≤ 200 by omega)]
    simp
  · rw [decide_eq_true (show szT t ≤ 500 by omega), decide_eq_true (show dpT t ≤ 200 by omega), e]
    simp
  · rw [Bool.not_eq_true] at e
    rw [e]
    simp
theorem small_ev (t : S25) (hf : szT t ≤ 4611686018427387904) : Ev (fun k => types_small.f k t.f0 t.f1 t.f2) (decide (szT t ≤ 500) && decide (dpT t ≤ 200)) := by
  simp only [types_small.f]
  refine Ev.bind (depth_ev t hf) (Ev.ite (fun e => Ev.bind (size_ev t hf) ((Ev.pure _).val ?_)) (fun e => (Ev.pure _).val ?_))
  · rw [decide_eq_true (show dpT t ≤ 200 by omega), Bool.and_true]
    exact decide_eq_decide.2 (by omega)
  · rw [decide_eq_false (show ¬ dpT t ≤ 200 by omega), Bool.and_false]
end Go.Proofs.Ytgnklkmifcmlhaa.Q
/- Proved here: valid substitutions: what types.valid answers. Conditions: those that each theorem names. -/
namespace Go.Proofs.Ytgnklkmifcmlhaa.Q
open Go.RowKit Go.Shelf Go.Proofs.YtgnklkmifcmlhaaW.PrintWords Go.Proofs.YtgnklkmifcmlhaaW.PrintMore
set_option linter.unusedVariables false
set_option linter.unusedSimpArgs false
attribute [local go_sem] Oper.semAt_some

/-! ### What Inst answers -/
def vldB (s : List S59) : Bool := s.all fun b => varB b.f0 && chkB b.f1
def fitB (b : S59) : Prop := okS b.f0 ∧ fit b.f1
theorem oddBind_ev (b : S59) (h : fitB b) : Ev (fun k => oddBind k b) (!(varB b.f0 && chkB b.f1)) := by
  simp only [oddBind]
  refine Ev.bind (variable_ev _ h.1) (Ev.ite (fun e => Ev.bind (check_ev _ h.2) ((Ev.pure _).val ?_)) (fun e => (Ev.pure _).val ?_))
  · rw [e]
    cases chkB b.f1 <;> simp
  · rw [Bool.not_eq_true] at e
    rw [e]
    simp
theorem vld_ev : ∀ (s : List S59), (∀ b, b ∈ s → fitB b) → Ev (fun k => containsO (oddBind k) s) (!vldB s)
  | [], _ => (Ev.pure _).val (by simp [vldB])
  | b :: s, h => by
    have ih := vld_ev s (fun x hx => h x (List.mem_cons_of_mem _ hx))
    simp only [containsO]
    refine Ev.bind (oddBind_ev b (h b (List.mem_cons_self ..))) (Ev.ite (fun e => (Ev.pure _).val ?_) (fun e => ih.val ?_))
    · simp only [vldB, List.all_cons]
      cases hq : (varB b.f0 && chkB b.f1) <;> simp_all
    · simp only [vldB, List.all_cons]
      cases hq : (varB b.f0 && chkB b.f1) <;> simp_all
theorem valid_f_ev (s : List S59) (h : ∀ b, b ∈ s → fitB b) : Ev (fun k => types_valid.f k s) (vldB s) := by
  simp only [types_valid.f]
  exact Ev.bind (vld_ev s h) ((Ev.pure _).val (by simp))

theorem chkB_sh {t : S25} (h : chkB t = true) : shB t = true ∧ szT t ≤ 500 ∧ dpT t ≤ 200 := by
  unfold chkB at h
  simp only [Bool.and_eq_true, decide_eq_true_eq] at h
  exact ⟨h.1.1, h.1.2, h.2⟩
theorem vldB_mem {s : List S59} (h : vldB s = true) {b : S59} (hb : b ∈ s) : varB b.f0 = true ∧ chkB b.f1 = true := by
  unfold vldB at h
  rw [List.all_eq_true] at h
  have := h b hb
  simpa using this

end Go.Proofs.Ytgnklkmifcmlhaa.Q
/- Proved here: rows of bindings under construction (append), each binding's type being a tree of the call's own. Conditions: those that each theorem names. -/
namespace Go.Proofs.Ytgnklkmifcmlhaa.Q
open Go.RowKit Go.Proofs.YtgnklkmifcmlhaaW.PrintWords Go.Proofs.YtgnklkmifcmlhaaW.PrintMore
set_option linter.unusedVariables false
set_option linter.unusedSimpArgs false

def RowB (w : World) (base : Nat) (v : Value) (ys : List S59) : Prop :=
  ∃ (inner : List Value) (vs : Nat → Value), w.ownsRow base 59 4 v ys.length inner ∧ ∀ j x, ys[j]? = some x → inner[j * 4]? = some (.string x.f0) ∧ inner[j * 4 + 1]? = some (.bool x.f1.f0) ∧ inner[j * 4 + 2]? = some (.string x.f1.f1) ∧ inner[j * 4 + 3]? = some (vs j) ∧ WT w (fun k => base ≤ k ∧ some k ≠ v.ownBlock) (vs j) x.f1.f2
theorem RowB.nil (w : World) (base : Nat) : RowB w base (.slice none 0 0) [] := ⟨[], fun _ => undef, World.ownsRow_nil _ _ _ _, fun j x hj => by simp at hj⟩
/-- An empty row that is owned (make). -/
theorem RowB.empty {w : World} {base : Nat} {v : Value} (h : w.ownsRow base 59 4 v 0 []) : RowB w base v [] := ⟨[], fun _ => undef, h, fun j x hj => by simp at hj⟩
theorem RowB.step {w w1 : World} {base : Nat} {v : Value} {ys : List S59} (h : RowB w base v ys) (hm : ∀ k, base ≤ k → k < w.heap.size → w1.heap[k]? = w.heap[k]?) : RowB w1 base v ys := by
  obtain ⟨inner, vs, hrow, hel⟩ := h
  exact ⟨inner, vs, own_move hrow (fun k hk => hm k (own_base hrow k hk) (own_lt hrow k hk)), fun j x hj => ⟨(hel j x hj).1, (hel j x hj).2.1, (hel j x hj).2.2.1, (hel j x hj).2.2.2.1, (hel j x hj).2.2.2.2.step (fun k hk hlt => hm k hk.1 hlt)⟩⟩
theorem RowB.later {w w1 : World} {base : Nat} {v : Value} {ys : List S59} (h : RowB w base v ys) (hb : Below w.heap.size w w1) : RowB w1 base v ys := h.step (fun k _ hk => hb.block k hk)
theorem RowB.slice {w : World} {base : Nat} {v : Value} {ys : List S59} (h : RowB w base v ys) : ∃ A c, v = .slice A ys.length c := by
  obtain ⟨_, _, h, _⟩ := h
  exact own_slice h
theorem RowB.next {w w3 : World} {base g cap : Nat} {v u : Value} {ys : List S59} {x : S59} {inner : List Value} {vs : Nat → Value} (hrow : w.ownsRow base 59 4 v ys.length inner)
    (hel : ∀ j x, ys[j]? = some x → inner[j * 4]? = some (.string x.f0) ∧ inner[j * 4 + 1]? = some (.bool x.f1.f0) ∧ inner[j * 4 + 2]? = some (.string x.f1.f1) ∧ inner[j * 4 + 3]? = some (vs j) ∧ WT w (fun k => base ≤ k ∧ some k ≠ v.ownBlock) (vs j) x.f1.f2)
    (hu : WT w (fun k => base ≤ k ∧ some k ≠ v.ownBlock) u x.f1.f2) (hown : w3.ownsRow base 59 4 (.slice (some ⟨g, 0, none⟩) (ys.length + 1) cap) (ys.length + 1) (inner ++ [.string x.f0, .bool x.f1.f0, .string x.f1.f1, u]))
    (hgr : w.grownBy w3 v.ownBlock) (hat : v.ownBlock = some g ∨ g = w.heap.size) : RowB w3 base (.slice (some ⟨g, 0, none⟩) (ys.length + 1) cap) (ys ++ [x]) := by
  have hil : inner.length = ys.length * 4 := hrow.1
  have hmv : ∀ {z : Value} {l : List S25}, WT w (fun k => base ≤ k ∧ some k ≠ v.ownBlock) z l → WT w3 (fun k => base ≤ k ∧ some k ≠ (Value.slice (some ⟨g, 0, none⟩) (ys.length + 1) cap).ownBlock) z l := by
    intro z l h
    refine (h.bound.step (fun k hk hlt => hgr.block k hlt hk.1.2)).mono (fun k hk => ⟨hk.1.1, fun he => ?_⟩)
    have hkg : k = g := by simpa [Value.ownBlock] using he
    subst hkg
    rcases hat with hat | hat
    · exact hk.1.2 hat.symm
    · have := hk.2; omega
  refine ⟨inner ++ [.string x.f0, .bool x.f1.f0, .string x.f1.f1, u], fun j => if j = ys.length then u else vs j, by simpa using hown, fun j y hj => ?_⟩
  have hjl : j < (ys ++ [x]).length := (List.getElem?_eq_some_iff.1 hj).1
  rw [List.length_append, List.length_singleton] at hjl
  by_cases hje : j = ys.length
  · subst hje
    simp only [if_true]
    rw [List.getElem?_append_right (Nat.le_refl _), Nat.sub_self] at hj
    simp only [List.getElem?_cons_zero, Option.some.injEq] at hj
    rw [← hj]
    refine ⟨?_, ?_, ?_, ?_, hmv hu⟩
    · rw [List.getElem?_append_right (by omega), hil, Nat.sub_self]; rfl
    · rw [List.getElem?_append_right (by omega), hil, Nat.add_sub_cancel_left]; rfl
    · rw [List.getElem?_append_right (by omega), hil, Nat.add_sub_cancel_left]; rfl
    · rw [List.getElem?_append_right (by omega), hil, Nat.add_sub_cancel_left]; rfl
  · have hj2 : j < ys.length := by omega
    rw [List.getElem?_append_left hj2] at hj
    obtain ⟨q0, q1, q2, q3, q4⟩ := hel j y hj
    simp only [if_neg hje]
    have : (j + 1) * 4 ≤ ys.length * 4 := Nat.mul_le_mul_right _ hj2
    exact ⟨by rw [List.getElem?_append_left (by omega)]; exact q0, by rw [List.getElem?_append_left (by omega)]; exact q1, by rw [List.getElem?_append_left (by omega)]; exact q2, by rw [List.getElem?_append_left (by omega)]; exact q3, hmv q4⟩
/-- As what is read. -/
theorem RowB.reads {w : World} {base : Nat} {v : Value} {ys : List S59} (h : RowB w base v ys) : ∃ A c, v = .slice A ys.length c ∧ ys.length ≤ c ∧ k59.C w A ys.length ys := by
  obtain ⟨inner, vs, ⟨h1, h2⟩, hel⟩ := h
  rcases h2 with ⟨rfl, h2⟩ | ⟨g, cap, cur, rfl, hg, hb, hl, hm, hz, ht⟩
  · obtain rfl := List.length_eq_zero_iff.1 h2
    exact ⟨none, 0, rfl, Nat.le_refl _, rfl, by simp, fun h => absurd h (by simp)⟩
  · have hcm : cap ≤ 9223372036854775807 := by simpa [maxLen] using hm
    refine ⟨_, _, rfl, hl, rfl, by omega, fun _ => ⟨_, rfl, fun j p hj => ?_⟩⟩
    have hjl : j < ys.length := (List.getElem?_eq_some_iff.1 hj).1
    obtain ⟨q0, q1, q2, q3, q4⟩ := hel j p hj
    obtain ⟨A, c, hv, hlc, hC⟩ := q4.reads
    rw [hv] at q3
    have hs : ∀ i, i < 4 → cur[j * 4 + i]? = inner[j * 4 + i]? := by
      intro i hi
      have hlt : j * 4 + i < ys.length * 4 := by
        have : (j + 1) * 4 ≤ ys.length * 4 := Nat.mul_le_mul_right _ hjl
        omega
      rw [← ht, List.getElem?_take_of_lt hlt, Array.getElem?_toList]
    refine ⟨[.string p.f0, .bool p.f1.f0, .string p.f1.f1, .slice A p.f1.f2.length c], rfl, k59_mk w p hlc hC, fun i u hu => ?_⟩
    show w.cell? (Addr.add ⟨g, 0, none⟩ (j * 4 + i)) = some u
    rw [add_zero_spot, blk_cell hb]
    match i, hu with
    | 0, hu => exact ((hs 0 (by omega)).trans q0).trans hu
    | 1, hu => exact ((hs 1 (by omega)).trans q1).trans hu
    | 2, hu => exact ((hs 2 (by omega)).trans q2).trans hu
    | 3, hu => exact ((hs 3 (by omega)).trans q3).trans hu
    | i + 4, hu => simp at hu
end Go.Proofs.Ytgnklkmifcmlhaa.Q
/- Proved here: the contract of types.Same. Conditions: those that each theorem names. -/
namespace Go.Proofs.Ytgnklkmifcmlhaa.Q
open Go.RowKit Go.Shelf Go.Proofs.YtgnklkmifcmlhaaW.PrintWords Go.Proofs.YtgnklkmifcmlhaaW.PrintMore
set_option linter.unusedVariables false
set_option linter.unusedSimpArgs false
attribute [local go_sem] Oper.semAt_some
set_option maxHeartbeats 1000000 in
set_option maxRecDepth 100000 in
theorem same_calls (x y : S25) (A : Option Addr) (c : Nat) (B : Option Addr) (d : Nat) (w : World) (hA : k25.C w A x.f2.length x.f2) (hc : x.f2.length ≤ c) (hB : k25.C w B y.f2.length y.f2) (hd : y.f2.length ≤ d) :
    Calls Try.prog 35 #[.agg #[.bool x.f0, .string x.f1, .slice A x.f2.length c], .agg #[.bool y.f0, .string y.f1, .slice B y.f2.length d]] w fun e w' => e = .returned (.bool (cmpT x y == 0)) ∧ Below w.heap.size w w' := by
  have hcmp := fun W (hw : Below w.heap.size w W) => compare_ok _ x y (Nat.le_refl _) A c B d W (Kd.C_below hA hw) hc (Kd.C_below hB hw) hd
  have hb2 := below_two (w := w) (.cells #[.bool x.f0, .string x.f1, .slice A x.f2.length c] 25) (.cells #[.bool y.f0, .string y.f1, .slice B y.f2.length d] 25)
  clear hA hB hc hd
  go_enter Try.func35, Try.ntmps35
  go_wp2_with (go_at_call 33; refine (hcmp _ (by first | exact hb2 | exact Below.refl _ _)).mono ?_; rintro e W1 ⟨rfl, h1⟩)
  go_ret
  exact ⟨by simp, by first | exact below_step hb2 h1 | exact h1⟩
end Go.Proofs.Ytgnklkmifcmlhaa.Q
/- Proved here: the contract of types.match. Conditions: those that each theorem names. -/
namespace Go.Proofs.Ytgnklkmifcmlhaa.Q
open Go.RowKit Go.Shelf Go.Proofs.YtgnklkmifcmlhaaW.PrintWords Go.Proofs.YtgnklkmifcmlhaaW.PrintMore
set_option linter.unusedVariables false
set_option linter.unusedSimpArgs false
attribute [local go_sem] Oper.semAt_some

/-! ### match -/
mutual
def mtT : S25 → S25 → List S59 → Option (List S59)
  | ⟨pv, pn, pl⟩, t, s =>
    if pv = true then (match s.find? (findP pn) with | some b => if cmpT b.f1 t = 0 then some s else none | none => some (s ++ [⟨pn, t⟩]))
    else if t.f0 = true ∨ t.f1 ≠ pn ∨ t.f2.length ≠ pl.length then none else mtL pl t.f2 s
def mtL : List S25 → List S25 → List S59 → Option (List S59)
  | p :: l, t :: m, s => match mtT p t s with | some s' => mtL l m s' | none => none
  | _, _, s => some s
end
theorem mtL_len : ∀ (p : S25) (t : S25) (s s' : List S59), mtT p t s = some s' → s'.length ≤ s.length + szT p := by
  intro p
  have : ∀ n p t s s', szT p ≤ n → mtT p t s = some s' → s'.length ≤ s.length + szT p := by
    intro n
    induction n with
    | zero => intro p t s s' h; have := szT_pos p; omega
    | succ n ih =>
      intro p t s s' hn h
      obtain ⟨pv, pn, pl⟩ := p
      simp only [szT] at hn ⊢
      simp only [mtT] at h
      split at h
      · split at h
        · split at h
          · injection h with h; subst h; omega
          · simp at h
        · injection h with h; subst h; simp
      · split at h
        · simp at h
        · have hL : ∀ (l m : List S25) (s s' : List S59), szL l ≤ n → mtL l m s = some s' → s'.length ≤ s.length + szL l := by
            intro l
            induction l with
            | nil => intro m s s' _ h; cases m <;> (simp only [mtL, Option.some.injEq] at h; subst h; omega)
            | cons a l ihl =>
              intro m s s' hl h
              cases m with
              | nil => simp only [mtL, Option.some.injEq] at h; subst h; omega
              | cons b m =>
                simp only [szL] at hl ⊢
                simp only [mtL] at h
                cases hq : mtT a b s with
                | none => rw [hq] at h; simp at h
                | some s1 =>
                  rw [hq] at h
                  have h1 := ih a b s s1 (by omega) hq
                  have h2 := ihl m s1 s' (by omega) h
                  omega
          have := hL pl t.f2 s s' (by omega) h
          omega
  exact fun t s s' h => this _ p t s s' (Nat.le_refl _) h
/-- What match hands back. -/
def MatchPost (w0 w : World) (v : Value) (o : Option (List S59)) (e : Ending) (w' : World) : Prop :=
  w.grownBy w' v.ownBlock ∧ match o with
    | some s' => ∃ v', e = .returned (.tuple #[v', .bool true]) ∧ RowB w' w0.heap.size v' s' ∧ (v'.ownBlock = v.ownBlock ∨ ∃ b, v'.ownBlock = some b ∧ w.heap.size ≤ b)
    | none => ∃ A n c, e = .returned (.tuple #[.slice A n c, .bool false])
theorem grown_of_below {w w' : World} (h : Below w.heap.size w w') (row : Option Nat) : w.grownBy w' row := ⟨h.os, h.tape, h.output, h.size, fun k hk _ => h.block k hk⟩

theorem match_next {w0 w W3 w3 : World} {pn : ByteArray} {t : S25} {s : List S59} {RA A4 : Option Addr} {rc c4 g cap : Nat} {inner : List Value} {vs : Nat → Value} {o : Obj}
    (hown : w.ownsRow w0.heap.size 59 4 (.slice RA s.length rc) s.length inner)
    (hel : ∀ j x, s[j]? = some x → inner[j * 4]? = some (.string x.f0) ∧ inner[j * 4 + 1]? = some (.bool x.f1.f0) ∧ inner[j * 4 + 2]? = some (.string x.f1.f1) ∧ inner[j * 4 + 3]? = some (vs j) ∧ WT w (fun k => w0.heap.size ≤ k ∧ some k ≠ (Value.slice RA s.length rc).ownBlock) (vs j) x.f1.f2)
    (hb : Below w0.heap.size w0 w) (hb3 : Below w.heap.size w W3) (hW : WT W3 (fun k => w.heap.size ≤ k) (.slice A4 t.f2.length c4) t.f2)
    (hown3 : w3.ownsRow w0.heap.size 59 4 (.slice (some ⟨g, 0, none⟩) (s.length + 1) cap) (s.length + 1) (inner ++ [.string pn, .bool t.f0, .string t.f1, .slice A4 t.f2.length c4]))
    (hgr : (W3.alloc o).grownBy w3 (Value.slice RA s.length rc).ownBlock) (hat : (Value.slice RA s.length rc).ownBlock = some g ∨ g = (W3.alloc o).heap.size) :
    w.grownBy w3 (Value.slice RA s.length rc).ownBlock ∧ RowB w3 w0.heap.size (.slice (some ⟨g, 0, none⟩) (s.length + 1) cap) (s ++ [⟨pn, t⟩]) ∧
      ((Value.slice (some ⟨g, 0, none⟩) (s.length + 1) cap).ownBlock = (Value.slice RA s.length rc).ownBlock ∨ ∃ b, (Value.slice (some ⟨g, 0, none⟩) (s.length + 1) cap).ownBlock = some b ∧ w.heap.size ≤ b) := by
  have hbo : Below w.heap.size w (W3.alloc o) := hb3.alloc hb3.size _
  have hrb : ∀ k, (Value.slice RA s.length rc).ownBlock = some k → k < w.heap.size := fun k hk => own_lt hown k hk
  refine ⟨⟨hgr.os.trans hbo.os, hgr.tape.trans hbo.tape, hgr.output.trans hbo.output, Nat.le_trans hbo.size hgr.size, fun k hk hn => (hgr.block k (Nat.lt_of_lt_of_le hk hbo.size) hn).trans (hbo.block k hk)⟩, ?_, ?_⟩
  · exact RowB.next (x := ⟨pn, t⟩) (own_later hown hbo) (fun j x hj => ⟨(hel j x hj).1, (hel j x hj).2.1, (hel j x hj).2.2.1, (hel j x hj).2.2.2.1, (hel j x hj).2.2.2.2.later hbo⟩) ((hW.later (below_one _)).mono (fun k hk => ⟨Nat.le_trans hb.size hk, fun e => by have := hrb k e.symm; omega⟩)) hown3 hgr hat
  · rcases hat with hat | hat
    · exact .inl (by rw [hat]; rfl)
    · exact .inr ⟨g, rfl, by rw [hat]; exact hbo.size⟩

set_option maxHeartbeats 2000000 in
set_option maxRecDepth 100000 in
theorem match_var (w0 : World) (p t : S25) (s : List S59) (A : Option Addr) (c : Nat) (B : Option Addr) (d : Nat) (v : Value) (w : World) (hp : p.f0 = true) (hA : k25.C w0 A p.f2.length p.f2) (hB : k25.C w0 B t.f2.length t.f2) (hc : p.f2.length ≤ c) (hd : t.f2.length ≤ d)
    (hb : Below w0.heap.size w0 w) (hv : RowB w w0.heap.size v s) (hs : s.length ≤ 1000000) (ht : szT t ≤ 5864062014805) :
    Calls Try.prog 66 #[.agg #[.bool p.f0, .string p.f1, .slice A p.f2.length c], .agg #[.bool t.f0, .string t.f1, .slice B t.f2.length d], v] w (MatchPost w0 w v (mtT p t s)) := by
  obtain ⟨pv, pn, pl⟩ := p
  dsimp only at hp hA hc ⊢
  subst hp
  simp only [mtT, if_true]
  obtain ⟨RA, rc, rfl⟩ := hv.slice
  have hb2 := below_two (w := w) (.cells #[.bool true, .string pn, .slice A pl.length c] 25) (.cells #[.bool t.f0, .string t.f1, .slice B t.f2.length d] 25)
  have B3 := blk_mid (w := w) (.cells #[.bool true, .string pn, .slice A pl.length c] 25) (.cells #[.bool t.f0, .string t.f1, .slice B t.f2.length d] 25)
  have B4 := blk_top (w := w) (.cells #[.bool true, .string pn, .slice A pl.length c] 25) (.cells #[.bool t.f0, .string t.f1, .slice B t.f2.length d] 25)
  obtain ⟨SA, sc, he, hsl, hsC⟩ := hv.reads
  injection he with h1 _ h2
  subst h1 h2
  have hBw := Kd.C_below hB hb
  cases hf : s.find? (findP pn) with
  | some b =>
    have hfc := fun W (hw : Below w.heap.size w W) => find_at RA rc s pn b.f1.f0 b.f1.f1 b.f1.f2 true W (Kd.C_below hsC hw) hsl (by simp [types_find.f, hf])
    have h35 := fun W A1 c1 hA1 hc1 (hw : Below w.heap.size w W) => same_calls b.f1 t A1 c1 B d W hA1 hc1 (Kd.C_below hBw hw) hd
    clear hf hA hB hBw hsC
    dsimp only
    generalize hq : cmpT b.f1 t = q at *
    clear hq
    generalize b.f1 = x at *
    have HV := Aside0.mk hv
    clear hv
    by_cases h0 : q = 0
    · rw [show (q == 0) = true by rw [h0]; rfl] at h35
      rw [if_pos h0]
      clear h0
      go_enter Try.func66, Try.ntmps66
      go_wp2_with (first
        | (go_at_call 100; refine (hfc _ hb2).mono ?_; rintro e W1 ⟨A3, c3, rfl, hl3, hC3, hb1⟩; have hbw := below_step hb2 hb1; have B31 := blk_below B3 hb1; have B41 := blk_below B4 hb1; obtain ⟨x0, x1, x2, x3, x4, x5, x6⟩ := box3s B31; obtain ⟨y0, y1, y2, y3, y4, y5, y6⟩ := box3s B41)
        | (go_at_call 35; refine (h35 _ A3 c3 (Kd.C_below hC3 (below_one _)) hl3 (hbw.alloc hbw.size _)).mono ?_; rintro e W2 ⟨rfl, hb3⟩))
      have hbf := below_step (hbw.alloc hbw.size (.cells #[.bool x.f0, .string x.f1, .slice A3 x.f2.length c3] 25)) hb3
      refine bodyPost_ret (results_tmp2 rfl _ _ _) rfl ⟨grown_of_below hbf _, ?_⟩
      exact ⟨_, rfl, HV.out.later hbf, .inl rfl⟩
    · rw [beq_eq_false_iff_ne.mpr h0] at h35
      rw [if_neg h0]
      clear h0
      go_enter Try.func66, Try.ntmps66
      go_wp2_with (first
        | (go_at_call 100; refine (hfc _ hb2).mono ?_; rintro e W1 ⟨A3, c3, rfl, hl3, hC3, hb1⟩; have hbw := below_step hb2 hb1; have B31 := blk_below B3 hb1; have B41 := blk_below B4 hb1; obtain ⟨x0, x1, x2, x3, x4, x5, x6⟩ := box3s B31; obtain ⟨y0, y1, y2, y3, y4, y5, y6⟩ := box3s B41)
        | (go_at_call 35; refine (h35 _ A3 c3 (Kd.C_below hC3 (below_one _)) hl3 (hbw.alloc hbw.size _)).mono ?_; rintro e W2 ⟨rfl, hb3⟩))
      have hbf := below_step (hbw.alloc hbw.size (.cells #[.bool x.f0, .string x.f1, .slice A3 x.f2.length c3] 25)) hb3
      refine bodyPost_ret (results_tmp2 rfl _ _ _) rfl ⟨grown_of_below hbf _, ?_⟩
      exact ⟨RA, s.length, rc, rfl⟩
  | none =>
    have hfc := fun W (hw : Below w.heap.size w W) => find_at RA rc s pn false ⟨#[]⟩ [] false W (Kd.C_below hsC hw) hsl (by simp [types_find.f, hf])
    simp only [List.length_nil] at hfc
    have h27 := fun W (hw : Below w.heap.size w W) => twin_calls (szT t) t B d W (Nat.le_refl _) ht (Kd.C_below hBw hw) hd
    obtain ⟨inner, vs, hown, hel⟩ := hv
    have HEL := Aside0.mk hel
    have HOWN := Aside0.mk hown
    clear hf hA hB hBw hsC hel hown
    dsimp only
    obtain ⟨i0, hi0, hz0, hz1, hz2⟩ := info_parts info59
    have hbs := hb.size
    go_enter Try.func66, Try.ntmps66
    go_wp2_with (first
      | (go_at_call 100; refine (hfc _ hb2).mono ?_; rintro e W1 ⟨A3, c3, rfl, hl3, hC3, hb1⟩; have hbw := below_step hb2 hb1; have B31 := blk_below B3 hb1; have B41 := blk_below B4 hb1; obtain ⟨x0, x1, x2, x3, x4, x5, x6⟩ := box3s B31; obtain ⟨y0, y1, y2, y3, y4, y5, y6⟩ := box3s B41)
      | fail)
    obtain ⟨W2, hW2⟩ : ∃ W2, W1.alloc (.cells #[.bool false, .string ⟨#[]⟩, .slice A3 0 c3] 25) = W2 := ⟨_, rfl⟩
    have hb12 : Below W1.heap.size W1 W2 := by rw [← hW2]; exact below_one _
    have hbw2 := below_step hbw hb12
    have B32 := blk_below B31 hb12
    have B42 := blk_below B41 hb12
    rw [hW2]
    clear hW2 x0 x1 x2 x3 x4 x5 x6 y0 y1 y2 y3 y4 y5 y6
    obtain ⟨x0, x1, x2, x3, x4, x5, x6⟩ := box3s B32
    obtain ⟨y0, y1, y2, y3, y4, y5, y6⟩ := box3s B42
    go_region_law (first
      | (refine step_append_lies _ rfl _ _ 22 rfl w0.heap.size 59 i0 _ 4 64 Try.underlying22 hi0 hz0 hz1 hz2 rfl (by decide) (.slice RA s.length rc) s.length inner rfl ((own_later HOWN.out hb3).alloc _) ⟨W3.heap.size, 0, none⟩ 1 1 [.string pn, .bool t.f0, .string t.f1, .slice A4 t.f2.length c4] rfl rfl (World.news_of_block (blk_new W3 _)) ?hone (by decide) ?h63 ?hby ?hbase _ rfl ?_; (case hone => simp [Value.oneCell']); (case h63 => unfold maxLen; omega); (case hby => omega); (case hbase => simp; omega); intro g cap w3 hown3 hgr hat hg3)
      | (go_simp; go_at_call 27; refine (h27 _ (below_drew1 hbw2)).mono ?_; rintro e W3 ⟨u, rfl, hW, hc3⟩; obtain ⟨A4, c4, hu4, _⟩ := hW.reads; subst hu4; have hc3' := below_step (below_drew1 (Below.refl _ W2)) hc3; have hb3 := below_step hbw2 hc3'; have hs3 := hb3.size; have hs2 := hbw2.size; obtain ⟨z0, z1, z2, z3, z4, z5, z6⟩ := box3s (blk_below B32 hc3')))
    all_goals (have HR := match_next (pn := pn) (t := t) HOWN.out HEL.out hb hb3 (hW.mono (fun k hk => by simp at hk; omega)) hown3 hgr hat)
    all_goals (clear hW hown3 hgr hat hc3 hc3' hb3 z0 z1 z2 z3 z4 z5 z6 h27 hfc)
    all_goals go_wp2
    all_goals (refine bodyPost_ret (results_tmp2 rfl _ _ _) rfl ⟨HR.1, _, rfl, HR.2.1, HR.2.2⟩)

theorem rd_get2 (l : List S25) (k : Nat) (h : k < l.length) : rd_T25 l (k : Int) = l[k] := (rd_get l k _ (List.getElem?_eq_getElem h)).2
theorem szL_take' (l : List S25) (j : Nat) (h : j < l.length) : szL (l.take (j + 1)) = szL (l.take j) + szT l[j] := by
  induction l generalizing j with
  | nil => simp at h
  | cons a l ih =>
    cases j with
    | zero => simp [szL]
    | succ j =>
      simp only [List.length_cons] at h
      simp only [List.take_succ_cons, szL, List.getElem_cons_succ]
      rw [ih j (by omega)]
      omega
theorem szL_le' (l : List S25) (j : Nat) (h : j < l.length) : szL (l.take j) + szT l[j] ≤ szL l := by
  rw [← szL_take' l j h]
  have : ∀ (l : List S25) (n : Nat), szL (l.take n) ≤ szL l := by
    intro l
    induction l with
    | nil => intro n; simp
    | cons a l ih =>
      intro n
      cases n with
      | zero => simp [szL]
      | succ n => simp only [List.take_succ_cons, szL]; have := ih n; omega
  exact this l (j + 1)
/-- What the statement of match's loop loads. -/
abbrev MatchS (w0 : World) (g : Nat) (u u' : Value) (ap at' : Addr) (x y : S25) (A2 : Option Addr) (c2 : Nat) (B2 : Option Addr) (d2 : Nat) (W : World) : Prop :=
  W.cell? ⟨g, 2, none⟩ = some u ∧ W.cell? ⟨g + 1, 2, none⟩ = some u' ∧
  W.cell? ap = some (.bool x.f0) ∧ W.cell? ⟨ap.block, ap.off + 1, none⟩ = some (.string x.f1) ∧ W.cell? ⟨ap.block, ap.off + 2, none⟩ = some (.slice A2 x.f2.length c2) ∧
  W.cell? at' = some (.bool y.f0) ∧ W.cell? ⟨at'.block, at'.off + 1, none⟩ = some (.string y.f1) ∧ W.cell? ⟨at'.block, at'.off + 2, none⟩ = some (.slice B2 y.f2.length d2) ∧ Below w0.heap.size w0 W
/-- Where match's loop stands. -/
structure MatchAt (w0 w : World) (p t : S25) (A : Option Addr) (c : Nat) (B : Option Addr) (d : Nat) (v : Value) (s : List S59) (kk : Nat) (v' : Value) (s' : List S59) (W : World) : Prop where
  b3 : W.heap[w.heap.size]? = some (.cells #[.bool p.f0, .string p.f1, .slice A p.f2.length c] 25 (0, 0))
  b4 : W.heap[w.heap.size + 1]? = some (.cells #[.bool t.f0, .string t.f1, .slice B t.f2.length d] 25 (0, 0))
  row : RowB W w0.heap.size v' s'
  gr : w.grownBy W v.ownBlock
  own : v'.ownBlock = v.ownBlock ∨ ∃ b, v'.ownBlock = some b ∧ w.heap.size ≤ b
  le : s'.length ≤ s.length + szL (p.f2.take kk)
  rest : mtL p.f2 t.f2 s = mtL (p.f2.drop kk) (t.f2.drop kk) s'

theorem _root_.Go.World.grownBy.trans2 {a b c : World} {u v : Value} (h : a.grownBy b u.ownBlock) (k : b.grownBy c v.ownBlock) (ho : v.ownBlock = u.ownBlock ∨ ∃ g, v.ownBlock = some g ∧ a.heap.size ≤ g) : a.grownBy c u.ownBlock :=
  ⟨k.os.trans h.os, k.tape.trans h.tape, k.output.trans h.output, Nat.le_trans h.size k.size, fun i hi hn => (k.block i (Nat.lt_of_lt_of_le hi h.size) (by
    rcases ho with ho | ⟨g, ho, hg⟩
    · rw [ho]; exact hn
    · rw [ho]; intro e; injection e with e; omega)).trans (h.block i hi hn)⟩
theorem own_trans {m n : Nat} {u v z : Value} (hmn : m ≤ n) (h : v.ownBlock = u.ownBlock ∨ ∃ g, v.ownBlock = some g ∧ m ≤ g) (k : z.ownBlock = v.ownBlock ∨ ∃ g, z.ownBlock = some g ∧ n ≤ g) : z.ownBlock = u.ownBlock ∨ ∃ g, z.ownBlock = some g ∧ m ≤ g := by
  rcases k with k | ⟨g, k, hg⟩
  · rw [k]; exact h
  · exact .inr ⟨g, k, by omega⟩
theorem match_after {w0 wr w1 : World} {g : Nat} {x y : Array Value} {v : Value} {s : List S59} (hb : Below w0.heap.size w0 wr) (b3 : wr.heap[g]? = some (.cells x 25 (0, 0))) (b4 : wr.heap[g + 1]? = some (.cells y 25 (0, 0)))
    (hrow : RowB wr w0.heap.size v s) (hg : wr.grownBy w1 v.ownBlock) : Below w0.heap.size w0 w1 ∧ w1.heap[g]? = some (.cells x 25 (0, 0)) ∧ w1.heap[g + 1]? = some (.cells y 25 (0, 0)) := by
  obtain ⟨_, _, ho, _⟩ := hrow
  have hne : ∀ (k : Nat) (z : Array Value), wr.heap[k]? = some (.cells z 25 (0, 0)) → some k ≠ v.ownBlock := fun k z hz e => by
    obtain ⟨cells, hc⟩ := own_typed ho k e.symm
    rw [hz] at hc
    injection hc with hc
    injection hc with _ hc
    exact absurd hc (by decide)
  exact ⟨hb.grown hg hb.size (fun k hk => own_base ho k hk), (hg.block g (blk_lt b3) (hne g x b3)).trans b3, (hg.block (g + 1) (blk_lt b4) (hne (g + 1) y b4)).trans b4⟩

set_option maxHeartbeats 2000000 in
set_option maxRecDepth 100000 in
theorem match_calls (w0 : World) : ∀ (n : Nat) (p t : S25) (s : List S59) (A : Option Addr) (c : Nat) (B : Option Addr) (d : Nat) (v : Value) (w : World), szT p ≤ n → k25.C w0 A p.f2.length p.f2 → k25.C w0 B t.f2.length t.f2 → p.f2.length ≤ c → t.f2.length ≤ d →
    Below w0.heap.size w0 w → RowB w w0.heap.size v s → s.length + szT p ≤ 1000000 → szT t ≤ 5864062014805 →
    Calls Try.prog 66 #[.agg #[.bool p.f0, .string p.f1, .slice A p.f2.length c], .agg #[.bool t.f0, .string t.f1, .slice B t.f2.length d], v] w (MatchPost w0 w v (mtT p t s))
  | 0, p, _, _, _, _, _, _, _, _, h, _, _, _, _, _, _, _, _ => by have := szT_pos p; omega
  | n + 1, p, t, s, A, c, B, d, v, w, hn, hA, hB, hc, hd, hb, hv, hs, ht => by
    cases hp : p.f0 with
    | true =>
      have h := match_var w0 p t s A c B d v w hp hA hB hc hd hb hv (by omega) ht
      rw [hp] at h
      exact h
    | false =>
      have hmt : mtT p t s = if t.f0 = true ∨ t.f1 ≠ p.f1 ∨ t.f2.length ≠ p.f2.length then none else mtL p.f2 t.f2 s := by
        obtain ⟨pv, pn, pl⟩ := p
        dsimp only at hp
        subst hp
        simp only [mtT]
        rw [if_neg (by simp)]
      have h2 := szT_eq' p
      have h3 := szT_eq' t
      have hlp := szL_len p.f2
      have hlt := szL_len t.f2
      obtain ⟨RA, rc, rfl⟩ := hv.slice
      have hb2 := below_two (w := w) (.cells #[.bool false, .string p.f1, .slice A p.f2.length c] 25) (.cells #[.bool t.f0, .string t.f1, .slice B t.f2.length d] 25)
      have B3 := blk_mid (w := w) (.cells #[.bool false, .string p.f1, .slice A p.f2.length c] 25) (.cells #[.bool t.f0, .string t.f1, .slice B t.f2.length d] 25)
      have B4 := blk_top (w := w) (.cells #[.bool false, .string p.f1, .slice A p.f2.length c] 25) (.cells #[.bool t.f0, .string t.f1, .slice B t.f2.length d] 25)
      rw [hmt]
      by_cases h0 : t.f0 = true ∨ t.f1 ≠ p.f1 ∨ t.f2.length ≠ p.f2.length
      · rw [if_pos h0]
        have HV := Aside0.mk hv
        clear hv hmt hA hB hb hs ht hn hp
        have hend : ∀ W', Below w.heap.size w W' → MatchPost w0 w (.slice RA s.length rc) none (.returned (.tuple #[.slice none 0 0, .bool false])) W' := fun W' h => ⟨grown_of_below h _, none, 0, 0, rfl⟩
        obtain ⟨tv, tn, tl⟩ := t
        obtain ⟨pv, pn, pl⟩ := p
        dsimp only at *
        cases tv with
        | true =>
          clear h0
          go_enter Try.func66, Try.ntmps66
          go_wp2
          refine bodyPost_ret (results_tmp2 rfl _ _ _) rfl ?_
          exact hend _ hb2
        | false =>
          by_cases hne : tn = pn
          · subst hne
            have hll : ¬ tl.length = pl.length := by
              rcases h0 with h0 | h0 | h0
              · simp at h0
              · exact absurd rfl h0
              · exact h0
            have e1 : ((tl.length : Int) != (pl.length : Int)) = true := bne_iff_ne.mpr (by omega)
            have e2 : ((tl.length : Int) == (pl.length : Int)) = false := beq_eq_false_iff_ne.mpr (by omega)
            have e3 : (tl.length == pl.length) = false := beq_eq_false_iff_ne.mpr hll
            have e4 : decide (tl.length = pl.length) = false := decide_eq_false hll
            clear h0 hll
            go_enter Try.func66, Try.ntmps66
            go_wp2
            refine bodyPost_ret (results_tmp2 rfl _ _ _) rfl ?_
            exact hend _ hb2
          · have hnl : ¬ tn.toList = pn.toList := fun h => hne (by
              rw [Go.ByteArray.toList_eq, Go.ByteArray.toList_eq] at h
              cases tn; cases pn
              simp only at h
              congr 1
              exact Array.toList_inj.1 h)
            have e1 : (tn.toList == pn.toList) = false := beq_eq_false_iff_ne.mpr hnl
            have e2 : (tn.toList != pn.toList) = true := bne_iff_ne.mpr hnl
            have e3 : decide (tn.toList = pn.toList) = false := decide_eq_false hnl
            clear h0 hne hnl
            go_enter Try.func66, Try.ntmps66
            go_wp2
            refine bodyPost_ret (results_tmp2 rfl _ _ _) rfl ?_
            exact hend _ hb2
      · rw [if_neg h0]
        have ih := fun (kk : Nat) (h1 : kk < p.f2.length) (h2' : kk < t.f2.length) s' A' c' B' d' v' W => match_calls w0 n p.f2[kk] t.f2[kk] s' A' c' B' d' v' W (by
          have := szL_mem p.f2 _ (List.getElem_mem h1)
          omega)
        have IH := Aside0.mk ih
        obtain ⟨tv, tn, tl⟩ := t
        obtain ⟨pv, pn, pl⟩ := p
        dsimp only at *
        have htv : tv = false := by cases tv <;> simp_all
        have htn : tn = pn := by
          by_cases h : tn = pn
          · exact h
          · exact absurd (.inr (.inl h)) h0
        have hll : tl.length = pl.length := by
          by_cases h : tl.length = pl.length
          · exact h
          · exact absurd (.inr (.inr h)) h0
        subst htv htn
        have HA := Aside0.mk hA
        have HB := Aside0.mk hB
        have HC := Aside0.mk hc
        have HD := Aside0.mk hd
        have HBW := Aside0.mk hb
        have HSZ := Aside0.mk hs
        have HT := Aside0.mk ht
        have HLL := Lib.hid hll
        have HV0 := Aside0.mk hv
        have hS0 : MatchAt w0 w ⟨false, tn, pl⟩ ⟨false, tn, tl⟩ A c B d (.slice RA s.length rc) s 0 (.slice RA s.length rc) s ((w.alloc (.cells #[.bool false, .string tn, .slice A pl.length c] 25)).alloc (.cells #[.bool false, .string tn, .slice B tl.length d] 25)) :=
          ⟨B3, B4, hv.later hb2, grown_of_below hb2 _, .inl rfl, by simp, by simp⟩
        have e1 : ((tl.length : Int) != (pl.length : Int)) = false := bne_eq_false_iff_eq.mpr (by omega)
        have e2 : ((tl.length : Int) == (pl.length : Int)) = true := beq_iff_eq.mpr (by omega)
        have e3 : (tl.length == pl.length) = true := beq_iff_eq.mpr hll
        have e4 : decide (tl.length = pl.length) = true := decide_eq_true hll
        clear hA hB hc hd hb hs ht ih hmt hn hv B3 B4 hb2 h0 hll
        go_enter Try.func66, Try.ntmps66
        go_wp2_with fail
        clear e1 e2 e3 e4
        obtain ⟨W0, hW0⟩ : ∃ W0, (w.alloc (.cells #[.bool false, .string tn, .slice A pl.length c] 25)).alloc (.cells #[.bool false, .string tn, .slice B tl.length d] 25) = W0 := ⟨_, rfl⟩
        rw [hW0] at hS0 ⊢
        clear hW0
        go_loopg [2, 10, 55] pl.length (fun gg v2 v10 v55 wr => ∃ (kk : Nat) (s' : List S59), kk ≤ pl.length ∧ gg + kk = pl.length ∧ v10 = .bool true ∧ v55 = .int .i64 (kk : Int) ∧ Aside0 (MatchAt w0 w ⟨false, tn, pl⟩ ⟨false, tn, tl⟩ A c B d (.slice RA s.length rc) s kk v2 s' wr))
        case atStart => exact ⟨0, s, by omega, by omega, rfl, rfl, ⟨hS0⟩⟩
        case round =>
          obtain ⟨kk, s', hk1, hk2, rfl, rfl, hT⟩ := hrel
          clear hS0
          obtain ⟨B3, B4, hrow, hgr, hown, hle, hrest⟩ := hT.out
          dsimp only at B3 B4 hle hrest
          by_cases hkk : kk < tl.length
          · have q0 : decide (kk < tl.length) = true := decide_eq_true hkk
            have hkp : kk < pl.length := by have := HLL.out; omega
            obtain ⟨RA', rc', rfl⟩ := hrow.slice
            have hbw : Below w0.heap.size w0 wr := ⟨hgr.os.trans HBW.out.os, hgr.tape.trans HBW.out.tape, hgr.output.trans HBW.out.output, Nat.le_trans HBW.out.size hgr.size, fun k hk => (hgr.block k (Nat.lt_of_lt_of_le hk HBW.out.size) (fun e => by
              obtain ⟨_, _, ho, _⟩ := HV0.out
              have := own_base ho k e.symm
              omega)).trans (HBW.out.block k hk)⟩
            obtain ⟨ap, A2, c2, rfl, p0, p1, p2, hl2, hC2⟩ := at_T25 HA.out (kk : Int) (by omega) (by omega)
            obtain ⟨at', B2, d2, rfl, t0, t1, t2, hm2, hD2⟩ := at_T25 HB.out (kk : Int) (by omega) (by omega)
            simp only [Int.toNat_natCast] at p0 p1 p2 t0 t1 t2
            rw [rd_get2 pl kk hkp] at p0 p1 p2 hl2 hC2
            rw [rd_get2 tl kk hkk] at t0 t1 t2 hm2 hD2
            have hcall := IH.out kk hkp hkk s' A2 c2 B2 d2 (.slice RA' s'.length rc') wr.drew hC2 hD2 hl2 hm2 (below_drew1 hbw) (hrow.later (below_drew1 (Below.refl _ _))) (by
              have h1 := szL_le' pl kk hkp
              have h2 := HSZ.out
              omega) (by
              have h1 := szL_mem tl _ (List.getElem_mem hkk)
              have h2 := HT.out
              omega)
            have hnext : mtL (pl.drop kk) (tl.drop kk) s' = (match mtT pl[kk] tl[kk] s' with | some s2 => mtL (pl.drop (kk + 1)) (tl.drop (kk + 1)) s2 | none => none) := by
              rw [List.drop_eq_getElem_cons hkp, List.drop_eq_getElem_cons hkk, mtL]
            have hle2 : ∀ s2, mtT pl[kk] tl[kk] s' = some s2 → s2.length ≤ s.length + szL (pl.take (kk + 1)) := fun s2 h => by
              have h1 := mtL_len _ _ _ _ h
              have h2 := szL_take' pl kk hkp
              omega
            have hS : ∀ W, Below w0.heap.size w0 W → W.heap[w.heap.size]? = some (.cells #[.bool false, .string tn, .slice (some ap) pl.length c] 25 (0, 0)) → W.heap[w.heap.size + 1]? = some (.cells #[.bool false, .string tn, .slice (some at') tl.length d] 25 (0, 0)) → MatchS w0 w.heap.size (.slice (some ap) pl.length c) (.slice (some at') tl.length d) (ap.add (kk * 3)) (at'.add (kk * 3)) pl[kk] tl[kk] A2 c2 B2 d2 W :=
              fun W h1 h2 h3 => ⟨(box3 h2).2.2.1, (box3 h3).2.2.1, pw_cell_below h1 p0, pw_cell_below h1 p1, pw_cell_below h1 p2, pw_cell_below h1 t0, pw_cell_below h1 t1, pw_cell_below h1 t2, h1⟩
            have haft := fun w1 (hg1 : wr.grownBy w1 (Value.slice RA' s'.length rc').ownBlock) => match_after hbw B3 B4 hrow hg1
            have hS0 := hS _ (below_drew1 hbw) B3 B4
            have HT2 := Aside0.mk hT.out
            clear hT
            generalize pl[kk] = x at *
            generalize tl[kk] = y at *
            have hqp : (Value.bool true) = .bool true := rfl
            clear p0 p1 p2 t0 t1 t2 hqp
            have HB3 := Aside0.mk B3
            have HB4 := Aside0.mk B4
            have HROW := Aside0.mk hrow
            clear hC2 hD2 B3 B4 hrow
            have q1 : decide (kk < pl.length) = true := decide_eq_true hkp
            cases hm : mtT x y s' with
            | none =>
              rw [hm] at hcall hnext
              rw [hrest.trans hnext]
              clear hm hnext hle2 hrest
              go_wp2_with fail
              go_region_held3 (fun W => MatchS w0 w.heap.size (.slice (some ap) pl.length c) (.slice (some at') tl.length d) (ap.add (kk * 3)) (at'.add (kk * 3)) x y A2 c2 B2 d2 W)
                (first | exact hS0 | assumption)
                (first | (go_at_call 66; refine hcall.mono ?_; rintro e w1 ⟨hg0, A9, n9, c9, rfl⟩; have hg1 : wr.grownBy w1 (Value.slice RA' s'.length rc').ownBlock := ⟨hg0.os, hg0.tape, hg0.output, hg0.size, hg0.block⟩; clear hg0; obtain ⟨hbz, b3z, b4z⟩ := haft w1 hg1; have hN := hS w1 hbz b3z b4z))
              have hgf := HT2.out.gr.trans2 hg1 HT2.out.own
              clear hcall hS0 hS haft hN b3z b4z hbz hg1
              go_wp2
              refine bodyPost_ret (results_tmp2 rfl _ _ _) rfl ⟨hgf, none, 0, 0, rfl⟩
            | some s2 =>
              rw [hm] at hcall hnext
              have hl3 := hle2 s2 hm
              have HRS := Lib.hid (hrest.trans hnext)
              clear hle2 hm hrest hnext
              go_wp2_with fail
              go_region_held3 (fun W => MatchS w0 w.heap.size (.slice (some ap) pl.length c) (.slice (some at') tl.length d) (ap.add (kk * 3)) (at'.add (kk * 3)) x y A2 c2 B2 d2 W)
                (first | exact hS0 | assumption)
                (first | (go_at_call 66; refine hcall.mono ?_; rintro e w1 ⟨hg0, v2, rfl, hrow2, hown2⟩; have hg1 : wr.grownBy w1 (Value.slice RA' s'.length rc').ownBlock := ⟨hg0.os, hg0.tape, hg0.output, hg0.size, hg0.block⟩; clear hg0; obtain ⟨hbz, b3z, b4z⟩ := haft w1 hg1; have hN := hS w1 hbz b3z b4z))
              have hA2 : MatchAt w0 w ⟨false, tn, pl⟩ ⟨false, tn, tl⟩ (some ap) c (some at') d (.slice RA s.length rc) s (kk + 1) v2 s2 w1 := ⟨b3z, b4z, hrow2, HT2.out.gr.trans2 hg1 HT2.out.own, own_trans HT2.out.gr.size HT2.out.own hown2, hl3, HRS.out⟩
              clear hcall hS0 hS haft hN b3z b4z hbz hg1 hrow2 hown2 hl3
              go_wp2
              go_roundg (pl.length - kk - 1)
              case measure => omega
              case rel =>
                have hkb : kk < 1000000 := by have := HSZ.out; omega
                exact ⟨kk + 1, s2, by omega, by omega, rfl, by simp <;> (unfold wrap64; omega), ⟨hA2⟩⟩
          · have q0 : decide (kk < tl.length) = false := decide_eq_false hkk
            have hlk : tl.length ≤ kk ∧ pl.length ≤ kk := by have := HLL.out; omega
            have hrest2 : mtL pl tl s = some s' := by
              rw [hrest, List.drop_of_length_le hlk.2, List.drop_of_length_le hlk.1]
              simp only [mtL]
            clear hkk hT hrest
            have HR := Aside0.mk hrow
            clear hrow
            go_wp2
            refine bodyPost_ret (results_tmp2 rfl _ _ _) rfl ⟨hgr, ?_⟩
            rw [hrest2]
            exact ⟨_, rfl, HR.out, hown⟩
end Go.Proofs.Ytgnklkmifcmlhaa.Q
/- Proved here: the contract of types.Match. Conditions: those that each theorem names. -/
namespace Go.Proofs.Ytgnklkmifcmlhaa.Q
open Go.RowKit Go.Shelf Go.Proofs.YtgnklkmifcmlhaaW.PrintWords Go.Proofs.YtgnklkmifcmlhaaW.PrintMore
set_option linter.unusedVariables false
set_option linter.unusedSimpArgs false
attribute [local go_sem] Oper.semAt_some

/-! ### Match -/
def matchF (p t : S25) (s : List S59) : List S59 × Bool × Int :=
  if (chkB p && chkB t && vldB s) = true then (match mtT p t s with | some l => (l, true, 0) | none => ([], false, 0)) else ([], false, 10)
def MatchRes (w : World) (r : List S59 × Bool × Int) (e : Ending) (w' : World) : Prop :=
  ∃ A c, e = .returned (.tuple #[.slice A r.1.length c, .bool r.2.1, .int .i64 r.2.2]) ∧ r.1.length ≤ c ∧ k59.C w' A r.1.length r.1 ∧ Below w.heap.size w w'

def MatchRow (w : World) (r : List S59 × Bool × Int) (e : Ending) (w' : World) : Prop :=
  ∃ v, e = .returned (.tuple #[v, .bool r.2.1, .int .i64 r.2.2]) ∧ RowB w' w.heap.size v r.1 ∧ Below w.heap.size w w'
theorem box4c {w : World} {g : Nat} {t : TypeId} {a b c d : Value} (h : w.heap[g]? = some (.cells #[a, b, c, d] t (0, 0))) : w.cell? ⟨g, 0, none⟩ = some a ∧ w.cell? ⟨g, 1, none⟩ = some b ∧ w.cell? ⟨g, 2, none⟩ = some c ∧ w.cell? ⟨g, 3, none⟩ = some d :=
  ⟨(blk_cell h 0).trans rfl, (blk_cell h 1).trans rfl, (blk_cell h 2).trans rfl, (blk_cell h 3).trans rfl⟩
set_option maxHeartbeats 2000000 in
set_option maxRecDepth 100000 in
theorem match_row (p t : S25) (s : List S59) (A : Option Addr) (c : Nat) (B : Option Addr) (d : Nat) (D : Option Addr) (f : Nat) (w : World) (hA : k25.C w A p.f2.length p.f2) (hB : k25.C w B t.f2.length t.f2) (hc : p.f2.length ≤ c) (hd : t.f2.length ≤ d)
    (hD : k59.C w D s.length s) (hf : s.length ≤ f) (hfp : fit p) (hft : fit t) (hfs : ∀ b, b ∈ s → fitB b) (hsl : s.length ≤ 500000) :
    Calls Try.prog 20 #[.agg #[.bool p.f0, .string p.f1, .slice A p.f2.length c], .agg #[.bool t.f0, .string t.f1, .slice B t.f2.length d], .slice D s.length f] w (MatchRow w (matchF p t s)) := by
  obtain ⟨kp, hkp⟩ := (check_ev p hfp).at
  obtain ⟨kt, hkt⟩ := (check_ev t hft).at
  obtain ⟨kv, hkv⟩ := (valid_f_ev s hfs).at
  have h28p := fun W (hw : Below w.heap.size w W) => types_Check.calls kp p.f0 p.f1 A c p.f2 _ W (Kd.C_below hA hw) hc hkp
  have h28t := fun W (hw : Below w.heap.size w W) => types_Check.calls kt t.f0 t.f1 B d t.f2 _ W (Kd.C_below hB hw) hd hkt
  have h57 := fun W (hw : Below w.heap.size w W) => types_valid.calls kv D f s _ W (Kd.C_below hD hw) hf hkv
  have hb0 := below_two (w := w) (.cells #[.bool p.f0, .string p.f1, .slice A p.f2.length c] 25) (.cells #[.bool t.f0, .string t.f1, .slice B t.f2.length d] 25)
  have B3 := blk_mid (w := w) (.cells #[.bool p.f0, .string p.f1, .slice A p.f2.length c] 25) (.cells #[.bool t.f0, .string t.f1, .slice B t.f2.length d] 25)
  have B4 := blk_top (w := w) (.cells #[.bool p.f0, .string p.f1, .slice A p.f2.length c] 25) (.cells #[.bool t.f0, .string t.f1, .slice B t.f2.length d] 25)
  have hbad : ∀ W', Below w.heap.size w W' → MatchRow w ([], false, 10) (.returned (.tuple #[.slice none 0 0, .bool false, .int .i64 10])) W' := fun W' h => ⟨_, rfl, RowB.nil _ _, h⟩
  clear hkp hkt hkv
  unfold matchF
  by_cases hok : (chkB p && chkB t && vldB s) = true
  · rw [if_pos hok]
    rw [Bool.and_eq_true, Bool.and_eq_true] at hok
    rw [if_pos hok.1.1] at h28p
    rw [if_pos hok.1.2] at h28t
    rw [hok.2] at h57
    obtain ⟨hshp, hszp, _⟩ := chkB_sh hok.1.1
    obtain ⟨hsht, hszt, _⟩ := chkB_sh hok.1.2
    have hsb : ∀ b, b ∈ s → szT b.f1 ≤ 500 := fun b hb => (chkB_sh (vldB_mem hok.2 hb).2).2.1
    have h66 := fun s' v W (hw : Below w.heap.size w W) (hv : RowB W w.heap.size v s') (hl : s'.length + szT p ≤ 1000000) => match_calls w (szT p) p t s' A c B d v W (Nat.le_refl _) hA hB hc hd hw hv hl (by omega)
    have hmk : ∀ W : World, (Instr.makeSlice 22 (.int .i64 0) (.int .i64 ((s.length : Int) + 1))).run Try.prog W = .ok (.slice (some ⟨W.heap.size, 0, none⟩) 0 (s.length + 1)) (W.alloc (.cells (madeCells #[.string ⟨#[]⟩, .bool false, .string ⟨#[]⟩, .slice none 0 0] ((s.length + 1) * 4)) 59)) := by
      intro W
      obtain ⟨i0, hi, hz0, hz1, hz2⟩ := info_parts info59
      have h := run_make (P := Try.prog) W 22 59 i0 _ Try.underlying22 hi hz0 .i64 .i64 0 ((s.length : Int) + 1) (by omega) (by omega) (by rw [hz2]; omega) (by omega)
      rw [hz1] at h
      exact h
    have HD := Aside0.mk hD
    have HSB := Aside0.mk hsb
    clear hbad hok hA hB hfp hft hfs hsb hD
    generalize hm : mtT p t s = o
    have HM := Lib.hid hm
    clear hm
    go_enter Try.func20, Try.ntmps20
    go_wp2_with (first
      | (go_at_call 57; refine (h57 _ hb2).mono ?_; rintro e W3 ⟨rfl, hc3⟩; have hb3 := below_step hb2 hc3; have B33 := blk_below B32 hc3; have B43 := blk_below B42 hc3; obtain ⟨x0, x1, x2, x3, x4, x5, x6⟩ := box3s B33; obtain ⟨y0, y1, y2, y3, y4, y5, y6⟩ := box3s B43)
      | (go_at_call 28; refine (h28t _ hb1).mono ?_; rintro e W2 ⟨rfl, hc2⟩; have hb2 := below_step hb1 hc2; have B32 := blk_below B31 hc2; have B42 := blk_below B41 hc2; obtain ⟨x0, x1, x2, x3, x4, x5, x6⟩ := box3s B32; obtain ⟨y0, y1, y2, y3, y4, y5, y6⟩ := box3s B42)
      | (go_at_call 28; refine (h28p _ hb0).mono ?_; rintro e W1 ⟨rfl, hc1⟩; have hb1 := below_step hb0 hc1; have B31 := blk_below B3 hc1; have B41 := blk_below B4 hc1; obtain ⟨x0, x1, x2, x3, x4, x5, x6⟩ := box3s B31; obtain ⟨y0, y1, y2, y3, y4, y5, y6⟩ := box3s B41))
    obtain ⟨W4, hW4⟩ : ∃ W4, W3.alloc (.cells (madeCells #[.string ⟨#[]⟩, .bool false, .string ⟨#[]⟩, .slice none 0 0] ((s.length + 1) * 4)) 59) = W4 := ⟨_, rfl⟩
    have hr4 : RowB W4 w.heap.size (.slice (some ⟨W3.heap.size, 0, none⟩) 0 (s.length + 1)) [] := by
      rw [← hW4]
      exact RowB.empty (World.ownsRow_made W3 _ _ hb3.size (by unfold maxLen; omega) (size_madeCells _ _))
    have hb4 : Below w.heap.size w W4 := by rw [← hW4]; exact hb3.alloc hb3.size _
    have B34 : W4.heap[w.heap.size]? = some (.cells #[.bool p.f0, .string p.f1, .slice A p.f2.length c] 25 (0, 0)) := by rw [← hW4]; exact blk_alloc B33 _
    have B44 : W4.heap[w.heap.size + 1]? = some (.cells #[.bool t.f0, .string t.f1, .slice B t.f2.length d] 25 (0, 0)) := by rw [← hW4]; exact blk_alloc B43 _
    rw [hW4]
    clear hW4 h28p h28t h57 hmk B33 B43 hb3 hb2 hb1 hb0 B3 B4 B31 B41 B32 B42 hc1 hc2 hc3 x0 x1 x2 x3 x4 x5 x6 y0 y1 y2 y3 y4 y5 y6
    obtain ⟨i0, hi0, hz0, hz1, hz2⟩ := info_parts info59
    go_loopg [9, 33] s.length (fun gg v9 v33 wr => ∃ kk : Nat, kk ≤ s.length ∧ gg + kk = s.length ∧ v33 = .int .i64 (kk : Int) ∧ Aside0 (RowB wr w.heap.size v9 (s.take kk)) ∧ Aside0 (wr.heap[w.heap.size]? = some (.cells #[.bool p.f0, .string p.f1, .slice A p.f2.length c] 25 (0, 0))) ∧ Aside0 (wr.heap[w.heap.size + 1]? = some (.cells #[.bool t.f0, .string t.f1, .slice B t.f2.length d] 25 (0, 0))) ∧ Aside0 (Below w.heap.size w wr))
    case atStart => exact ⟨0, by omega, by omega, rfl, ⟨by rw [List.take_zero]; exact hr4⟩, ⟨B34⟩, ⟨B44⟩, ⟨hb4⟩⟩
    case round =>
      obtain ⟨kk, hk1, hk2, rfl, HR, HB3, HB4, HBW⟩ := hrel
      clear hr4 hb4 B34 B44
      by_cases hkk : kk < s.length
      · have q0 : decide (kk < s.length) = true := decide_eq_true hkk
        obtain ⟨ad, A3, c3, rfl, e0, e1, e2, e3, hl3, hC3⟩ := at_T59 HD.out (kk : Int) (by omega) (by omega)
        simp only [Int.toNat_natCast] at e0 e1 e2 e3
        have hrb : rd_T59 s (kk : Int) = s[kk] := by
          unfold rd_T59
          simp only [Int.toNat_natCast]
          rw [List.getD_eq_getElem?_getD, List.getElem?_eq_getElem hkk]
          rfl
        rw [hrb] at e0 e1 e2 e3 hl3 hC3
        replace e0 := pw_cell_below HBW.out e0
        replace e1 := pw_cell_below HBW.out e1
        replace e2 := pw_cell_below HBW.out e2
        replace e3 := pw_cell_below HBW.out e3
        have h27 := fun W (hw : Below w.heap.size w W) => twin_calls (szT s[kk].f1) s[kk].f1 A3 c3 W (Nat.le_refl _) (by have := HSB.out s[kk] (List.getElem_mem hkk); omega) (Kd.C_below hC3 hw) hl3
        have hts : s.take (kk + 1) = s.take kk ++ [s[kk]] := by rw [List.take_add_one, List.getElem?_eq_getElem hkk]; rfl
        have hyl : (s.take kk).length = kk := by rw [List.length_take]; omega
        clear h66 hrb hC3 hl3
        generalize s[kk] = x at *
        generalize s.take kk = ys at *
        obtain ⟨RA, rc, rfl⟩ := HR.out.slice
        obtain ⟨inner, vs, hown, hel⟩ := HR.out
        have HOWN := Aside0.mk hown
        have HEL := Aside0.mk hel
        have HYL := Lib.hid hyl
        have HTS := Lib.hid hts
        clear hown hel hyl hts
        go_wp2_with fail
        obtain ⟨W5, hW5⟩ : ∃ W5, wr.alloc (.cells #[.string x.f0, .bool x.f1.f0, .string x.f1.f1, .slice A3 x.f1.f2.length c3] 59) = W5 := ⟨_, rfl⟩
        have BN := blk_new wr (.cells #[.string x.f0, .bool x.f1.f0, .string x.f1.f1, .slice A3 x.f1.f2.length c3] 59)
        have hb15 : Below wr.heap.size wr W5 := by rw [← hW5]; exact below_one _
        have hs5 : W5.heap.size = wr.heap.size + 1 := by rw [← hW5]; simp
        rw [hW5] at BN ⊢
        clear hW5 e0 e1 e2 e3
        obtain ⟨n0, n1, n2, n3⟩ := box4c BN
        have hbw5 := below_step HBW.out hb15
        go_region_law (first
          | (refine step_append_lies _ rfl _ _ 22 rfl w.heap.size 59 i0 _ 4 64 Try.underlying22 hi0 hz0 hz1 hz2 rfl (by decide) (.slice RA ys.length rc) ys.length inner rfl ((own_later HOWN.out hb3).alloc _) ⟨w1.heap.size, 0, none⟩ 1 1 [.string x.f0, .bool x.f1.f0, .string x.f1.f1, .slice A4 x.f1.f2.length c4] rfl rfl (World.news_of_block (blk_new w1 _)) ?hone (by decide) ?h63 ?hby ?hbase _ rfl ?_; (case hone => simp [Value.oneCell']); (case h63 => have := HYL.out; unfold maxLen; omega); (case hby => have := HYL.out; omega); (case hbase => simp; omega); intro g cap w3 hown3 hgr hat hg3)
          | (go_simp; go_at_call 27; refine (h27 _ (below_drew1 hbw5)).mono ?_; rintro e w1 ⟨u, rfl, hW, hc3⟩; obtain ⟨A4, c4, hu4, _⟩ := hW.reads; subst hu4; have hc3' := below_step (below_drew1 (Below.refl _ W5)) hc3; have hb3 := below_step hb15 hc3'; have hs3 := hb3.size; have hs2 := HBW.out.size; obtain ⟨m0, m1, m2, m3⟩ := box4c (blk_below BN hc3')))
        all_goals (have HR2 := match_next (pn := x.f0) (t := x.f1) HOWN.out HEL.out HBW.out hb3 (hW.mono (fun k hk => by simp at hk; omega)) hown3 hgr hat)
        all_goals (obtain ⟨hb3z, b3z, b4z⟩ := match_after HBW.out HB3.out HB4.out HR.out HR2.1)
        all_goals (have HRN : RowB w3 w.heap.size (.slice (some ⟨g, 0, none⟩) (ys.length + 1) cap) (s.take (kk + 1)) := by rw [HTS.out]; exact HR2.2.1)
        all_goals (have HRN' := Aside0.mk HRN; clear HRN HR2 hW hown3 hgr hat hc3 hc3' hb3 h27 n0 n1 n2 n3 m0 m1 m2 m3 BN hb15 hbw5)
        all_goals go_wp2
        all_goals (go_roundg (s.length - kk - 1))
        all_goals (first | omega | exact ⟨kk + 1, by omega, by omega, by simp <;> (unfold wrap64; omega), HRN', ⟨b3z⟩, ⟨b4z⟩, ⟨hb3z⟩⟩)
      · have q0 : decide (kk < s.length) = false := decide_eq_false hkk
        obtain rfl : kk = s.length := by omega
        have hrow := HR.out
        rw [List.take_length] at hrow
        have hcall := fun W hw hr => h66 s u9 W hw hr (by omega)
        obtain ⟨x0, x1, x2, x3, x4, x5, x6⟩ := box3s HB3.out
        obtain ⟨y0, y1, y2, y3, y4, y5, y6⟩ := box3s HB4.out
        have HROW := Aside0.mk hrow
        rw [HM.out] at hcall
        clear h66 hrow HM
        cases o with
        | none =>
          go_wp2_with (go_at_call 66; refine (hcall _ HBW.out HROW.out).mono ?_; rintro e w1 ⟨hg1, A9, n9, c9, rfl⟩)
          refine bodyPost_ret (results_tmp3 rfl _ _ _) rfl ?_
          exact ⟨_, rfl, RowB.nil _ _, HBW.out.grown hg1 HBW.out.size (fun k hk => by obtain ⟨_, _, ho, _⟩ := HROW.out; exact own_base ho k hk)⟩
        | some l =>
          go_wp2_with (go_at_call 66; refine (hcall _ HBW.out HROW.out).mono ?_; rintro e w1 ⟨hg1, v2, rfl, hrow2, hown2⟩)
          refine bodyPost_ret (results_tmp3 rfl _ _ _) rfl ?_
          exact ⟨_, rfl, hrow2, HBW.out.grown hg1 HBW.out.size (fun k hk => by obtain ⟨_, _, ho, _⟩ := HROW.out; exact own_base ho k hk)⟩
  · rw [if_neg hok]
    cases hp : chkB p with
    | false =>
      rw [hp, if_neg (by simp)] at h28p
      clear hok hA hB hD hfp hft hfs h28t h57
      go_enter Try.func20, Try.ntmps20
      go_wp2_with (first
        | (go_at_call 28; refine (h28p _ hb0).mono ?_; rintro e W1 ⟨rfl, hc1⟩; have hb1 := below_step hb0 hc1; have B31 := blk_below B3 hc1; have B41 := blk_below B4 hc1; obtain ⟨x0, x1, x2, x3, x4, x5, x6⟩ := box3s B31; obtain ⟨y0, y1, y2, y3, y4, y5, y6⟩ := box3s B41))
      refine bodyPost_ret (results_tmp3 rfl _ _ _) rfl ?_
      exact hbad _ hb1
    | true =>
      rw [hp, if_pos rfl] at h28p
      cases ht : chkB t with
      | false =>
        rw [ht, if_neg (by simp)] at h28t
        clear hok hA hB hD hfp hft hfs h57
        go_enter Try.func20, Try.ntmps20
        go_wp2_with (first
          | (go_at_call 28; refine (h28t _ hb1).mono ?_; rintro e W2 ⟨rfl, hc2⟩; have hb2 := below_step hb1 hc2; have B32 := blk_below B31 hc2; have B42 := blk_below B41 hc2; obtain ⟨x0, x1, x2, x3, x4, x5, x6⟩ := box3s B32; obtain ⟨y0, y1, y2, y3, y4, y5, y6⟩ := box3s B42)
          | (go_at_call 28; refine (h28p _ hb0).mono ?_; rintro e W1 ⟨rfl, hc1⟩; have hb1 := below_step hb0 hc1; have B31 := blk_below B3 hc1; have B41 := blk_below B4 hc1; obtain ⟨x0, x1, x2, x3, x4, x5, x6⟩ := box3s B31; obtain ⟨y0, y1, y2, y3, y4, y5, y6⟩ := box3s B41))
        refine bodyPost_ret (results_tmp3 rfl _ _ _) rfl ?_
        exact hbad _ hb2
      | true =>
        rw [ht, if_pos rfl] at h28t
        have hv : vldB s = false := by cases hv : vldB s <;> simp_all
        rw [hv] at h57
        clear hok hA hB hD hfp hft hfs hv
        go_enter Try.func20, Try.ntmps20
        go_wp2_with (first
          | (go_at_call 57; refine (h57 _ hb2).mono ?_; rintro e W3 ⟨rfl, hc3⟩; have hb3 := below_step hb2 hc3; have B33 := blk_below B32 hc3; have B43 := blk_below B42 hc3; obtain ⟨x0, x1, x2, x3, x4, x5, x6⟩ := box3s B33; obtain ⟨y0, y1, y2, y3, y4, y5, y6⟩ := box3s B43)
          | (go_at_call 28; refine (h28t _ hb1).mono ?_; rintro e W2 ⟨rfl, hc2⟩; have hb2 := below_step hb1 hc2; have B32 := blk_below B31 hc2; have B42 := blk_below B41 hc2; obtain ⟨x0, x1, x2, x3, x4, x5, x6⟩ := box3s B32; obtain ⟨y0, y1, y2, y3, y4, y5, y6⟩ := box3s B42)
          | (go_at_call 28; refine (h28p _ hb0).mono ?_; rintro e W1 ⟨rfl, hc1⟩; have hb1 := below_step hb0 hc1; have B31 := blk_below B3 hc1; have B41 := blk_below B4 hc1; obtain ⟨x0, x1, x2, x3, x4, x5, x6⟩ := box3s B31; obtain ⟨y0, y1, y2, y3, y4, y5, y6⟩ := box3s B41))
        refine bodyPost_ret (results_tmp3 rfl _ _ _) rfl ?_
        exact hbad _ hb3
theorem match_walk (p t : S25) (s : List S59) (A : Option Addr) (c : Nat) (B : Option Addr) (d : Nat) (D : Option Addr) (f : Nat) (w : World) (hA : k25.C w A p.f2.length p.f2) (hB : k25.C w B t.f2.length t.f2) (hc : p.f2.length ≤ c) (hd : t.f2.length ≤ d)
    (hD : k59.C w D s.length s) (hf : s.length ≤ f) (hfp : fit p) (hft : fit t) (hfs : ∀ b, b ∈ s → fitB b) (hsl : s.length ≤ 500000) :
    Calls Try.prog 20 #[.agg #[.bool p.f0, .string p.f1, .slice A p.f2.length c], .agg #[.bool t.f0, .string t.f1, .slice B t.f2.length d], .slice D s.length f] w (MatchRes w (matchF p t s)) := by
  refine (match_row p t s A c B d D f w hA hB hc hd hD hf hfp hft hfs hsl).mono ?_
  rintro e w' ⟨v, rfl, hR, hb⟩
  obtain ⟨A2, c2, rfl, hl, hC⟩ := hR.reads
  exact ⟨A2, c2, rfl, hl, hC, hb⟩
end Go.Proofs.Ytgnklkmifcmlhaa.Q
/- Proved here: what the reference's Compare and Same answer in the end. Conditions: those that each theorem names. -/
namespace Go.Proofs.Ytgnklkmifcmlhaa.Q
open Go.RowKit Go.Shelf Go.Proofs.YtgnklkmifcmlhaaW.PrintWords Go.Proofs.YtgnklkmifcmlhaaW.PrintMore
set_option linter.unusedVariables false
set_option linter.unusedSimpArgs false

/-! ### Compare and Same of the reference -/
theorem cmpB_eq : ∀ x y : List UInt8, Lib.compareBytes x y = if x = y then 0 else if Op.bytesLess x y = true then -1 else 1
  | [], [] => by simp [Lib.compareBytes]
  | [], _ :: _ => by simp [Lib.compareBytes, Op.bytesLess]
  | _ :: _, [] => by simp [Lib.compareBytes, Op.bytesLess]
  | a :: x, b :: y => by
    simp only [Lib.compareBytes, Op.bytesLess, cmpB_eq x y]
    by_cases h1 : a < b
    · have hne : ¬ a = b := by rintro rfl; exact absurd h1 (UInt8.lt_irrefl a)
      simp [h1, hne]
    · by_cases h2 : b < a
      · have hne : ¬ a = b := by rintro rfl; exact absurd h2 (UInt8.lt_irrefl a)
        simp [h1, h2, hne]
      · have he : a = b := by
          apply UInt8.le_antisymm
          · exact UInt8.not_lt.1 h2
          · exact UInt8.not_lt.1 h1
        subst he
        simp [h1]
theorem cmpI_zero (a b : Int) : cmpI a b = 0 ↔ a = b := by
  unfold cmpI
  split
  · omega
  · split <;> omega
theorem refcmp_ev (x : S25) : ∀ y : S25, szT x ≤ 4611686018427387904 → Ev (fun k => sequentref01_Compare.f k x.f0 x.f1 x.f2 y.f0 y.f1 y.f2) (cmpT x y) := by
  induction x using S_ind with
  | _ x ih =>
    intro y hx
    rw [szT_eq] at hx
    have hl := szL_len x.f2
    rw [cmpT_eq]
    unfold headC or3
    refine Ev.succ ?_
    simp only [sequentref01_Compare.f]
    have hb := cmpB_eq x.f1.data.toList y.f1.data.toList
    rw [← Go.ByteArray.toList_eq, ← Go.ByteArray.toList_eq] at hb
    rw [← Go.ByteArray.toList_eq, ← Go.ByteArray.toList_eq]
    refine Ev.ite (fun e => ?_) (fun e => ?_)
    · refine Ev.ite (fun e2 => (Ev.pure _).val ?_) (fun e2 => (Ev.pure _).val ?_)
      · have h1 : y.f0 = false := by cases hy : y.f0 <;> simp_all
        rw [e2, h1]
        simp [rankT, cmpI]
      · rw [Bool.not_eq_true] at e2
        have h1 : y.f0 = true := by cases hy : y.f0 <;> simp_all
        rw [e2, h1]
        simp [rankT, cmpI]
    · have h0 : x.f0 = y.f0 := by cases hy : y.f0 <;> cases hx : x.f0 <;> simp_all
      rw [h0, show cmpI (rankT y.f0) (rankT y.f0) = 0 from (cmpI_zero _ _).2 rfl]
      simp only [ne_eq, not_true_eq_false, if_false]
      rw [hb]
      refine Ev.ite (fun e2 => ?_) (fun e2 => ?_)
      · rw [if_pos e2]
        simp only [not_true_eq_false, if_false]
        refine Ev.ite (fun e3 => ?_) (fun e3 => ?_)
        · rw [(cmpI_zero _ _).2 e3]
          simp only [not_true_eq_false, if_false]
          have hlen : x.f2.length = y.f2.length := by omega
          refine down (fun j => Ev (fun k => sequentref01_Compare.l0 k (j : Int) y.f0 x.f1 x.f2 y.f0 y.f1 y.f2) (cmpL (x.f2.drop j) (y.f2.drop j))) x.f2.length ?_ ?_
          · refine Ev.succ ?_
            simp only [sequentref01_Compare.l0]
            refine Ev.neg (by omega) ((Ev.pure _).val ?_)
            rw [List.drop_length, hlen, List.drop_length]
            rfl
          · intro j hj h
            refine Ev.succ ?_
            simp only [sequentref01_Compare.l0]
            refine Ev.pos (by omega) (Ev.pos (by omega) (Ev.pos (by omega) ?_))
            rw [rdT x.f2 j hj, rdT y.f2 j (by omega)]
            have hm := szL_mem x.f2 _ (List.getElem_mem hj)
            refine Ev.bind (ih _ (List.getElem_mem hj) y.f2[j] (by omega)) ?_
            rw [List.drop_eq_getElem_cons hj, List.drop_eq_getElem_cons (show j < y.f2.length by omega), cmpL, w64s (by omega)]
            refine Ev.ite (fun e4 => ?_) (fun e4 => (Ev.pure _).val ?_)
            · rw [if_neg (by simp [e4])]
              exact h
            · rw [if_pos e4]
        · have hne : ¬ cmpI (x.f2.length : Int) (y.f2.length : Int) = 0 := fun h => e3 ((cmpI_zero _ _).1 h)
          rw [if_pos hne]
          refine Ev.ite (fun e4 => (Ev.pure _).val ?_) (fun e4 => (Ev.pure _).val ?_)
          · unfold cmpI; rw [if_pos e4]
          · unfold cmpI; rw [if_neg e4, if_pos (by omega)]
      · rw [if_neg e2]
        refine Ev.ite (fun e3 => (Ev.pure _).val ?_) (fun e3 => (Ev.pure _).val ?_)
        · rw [if_pos e3]; simp
        · rw [if_neg e3]; simp
mutual
theorem cmpT_self : ∀ x : S25, cmpT x x = 0
  | ⟨v, n, l⟩ => by
    rw [cmpT_eq]
    have h : headC (⟨v, n, l⟩ : S25) ⟨v, n, l⟩ = 0 := by
      unfold headC or3
      rw [(cmpI_zero _ _).2 rfl, (cmpI_zero _ _).2 rfl, cmpB_eq, if_pos rfl]
      simp
    rw [h]
    simp only [ne_eq, not_true_eq_false, if_false]
    exact cmpL_self l
theorem cmpL_self : ∀ l : List S25, cmpL l l = 0
  | [] => rfl
  | a :: l => by simp [cmpL, cmpT_self a, cmpL_self l]
end
theorem same_ev (x y : S25) (hx : szT x ≤ 4611686018427387904) : Ev (fun k => sequentref01_Same.f k x.f0 x.f1 x.f2 y.f0 y.f1 y.f2) (cmpT x y == 0) := by
  simp only [sequentref01_Same.f]
  exact Ev.bind (refcmp_ev x y hx) (Ev.pure _)

theorem rdB (l : List S59) (j : Nat) (h : j < l.length) : rd_T59 l (j : Int) = l[j] := by
  unfold rd_T59
  simp only [Int.toNat_natCast]
  rw [List.getD_eq_getElem?_getD, List.getElem?_eq_getElem h]
  rfl
end Go.Proofs.Ytgnklkmifcmlhaa.Q
/- Proved here: the reference's SameStrings answers true for equal rows. Conditions: those that each theorem names. -/
namespace Go.Proofs.Ytgnklkmifcmlhaa.Q
open Go.RowKit Go.Shelf Go.Proofs.YtgnklkmifcmlhaaW.PrintWords Go.Proofs.YtgnklkmifcmlhaaW.PrintMore
set_option linter.unusedVariables false
set_option linter.unusedSimpArgs false
theorem samestrs_ev (s : List ByteArray) (hl : s.length ≤ 4611686018427387904) : Ev (fun k => sequentref01_SameStrings.f k s s) true := by
  simp only [sequentref01_SameStrings.f]
  refine Ev.pos trivial ?_
  refine down (fun j => Ev (fun k => sequentref01_SameStrings.l0 k s s (j : Int)) true) s.length ?_ ?_
  · refine Ev.succ ?_
    simp only [sequentref01_SameStrings.l0]
    exact Ev.neg (by omega) (Ev.pure _)
  · intro j hj h
    refine Ev.succ ?_
    simp only [sequentref01_SameStrings.l0]
    refine Ev.pos (by omega) (Ev.pos (by omega) (Ev.pos (by omega) (Ev.pos (by trivial) ?_)))
    rw [w64s (by omega)]
    exact h
end Go.Proofs.Ytgnklkmifcmlhaa.Q
/- Proved here: the contract of types.DestFun. Conditions: those that each theorem names. -/
namespace Go.Proofs.Ytgnklkmifcmlhaa.Q
open Go.RowKit Go.Shelf Go.Proofs.YtgnklkmifcmlhaaW.PrintWords Go.Proofs.YtgnklkmifcmlhaaW.PrintMore
set_option linter.unusedVariables false
set_option linter.unusedSimpArgs false
attribute [local go_sem] Oper.semAt_some

def zT : S25 := ⟨false, ⟨#[]⟩, []⟩
def destF (t : S25) : S25 × S25 × Bool :=
  if t.f0 = false ∧ t.f1 = funN ∧ t.f2.length = 2 then (t.f2.getD 0 zT, t.f2.getD 1 zT, true) else (zT, zT, false)
def DestPost (w : World) (r : S25 × S25 × Bool) (e : Ending) (w' : World) : Prop :=
  ∃ v1 v2, e = .returned (.tuple #[.agg #[.bool r.1.f0, .string r.1.f1, v1], .agg #[.bool r.2.1.f0, .string r.2.1.f1, v2], .bool r.2.2]) ∧ WT w' (fun k => w.heap.size ≤ k) v1 r.1.f2 ∧ WT w' (fun k => w.heap.size ≤ k) v2 r.2.1.f2 ∧ Below w.heap.size w w'
abbrev DesS (w : World) (ad : Addr) (c : Nat) (x y : S25) (A : Option Addr) (ca : Nat) (B : Option Addr) (cb : Nat) (W : World) : Prop :=
  W.cell? ⟨w.heap.size, 0, none⟩ = some (.bool false) ∧ W.cell? ⟨w.heap.size, 1, none⟩ = some (.string ⟨#[102, 117, 110]⟩) ∧ W.cell? ⟨w.heap.size, 2, none⟩ = some (.slice (some ad) 2 c) ∧
    W.cell? ad = some (.bool x.f0) ∧ W.cell? ⟨ad.block, ad.off + 1, none⟩ = some (.string x.f1) ∧ W.cell? ⟨ad.block, ad.off + 2, none⟩ = some (.slice A x.f2.length ca) ∧
    W.cell? ⟨ad.block, ad.off + 3, none⟩ = some (.bool y.f0) ∧ W.cell? ⟨ad.block, ad.off + 3 + 1, none⟩ = some (.string y.f1) ∧ W.cell? ⟨ad.block, ad.off + 3 + 2, none⟩ = some (.slice B y.f2.length cb) ∧ Below w.heap.size w W
set_option maxHeartbeats 2000000 in
set_option maxRecDepth 100000 in
theorem dest_calls (t : S25) (A : Option Addr) (c : Nat) (w : World) (hA : k25.C w A t.f2.length t.f2) (hc : t.f2.length ≤ c) (hsz : szT t ≤ 5864062014805) :
    Calls Try.prog 25 #[.agg #[.bool t.f0, .string t.f1, .slice A t.f2.length c]] w (DestPost w (destF t)) := by
  have hb0 := below_three (w := w) (.cells #[.bool t.f0, .string t.f1, .slice A t.f2.length c] 25) (.cells #[.bool false, .string ⟨#[]⟩, .slice none 0 0] 25) (.cells #[.bool false, .string ⟨#[]⟩, .slice none 0 0] 25)
  have B0 := blk_alloc (blk_mid (w := w) (.cells #[.bool t.f0, .string t.f1, .slice A t.f2.length c] 25) (.cells #[.bool false, .string ⟨#[]⟩, .slice none 0 0] 25)) (.cells #[.bool false, .string ⟨#[]⟩, .slice none 0 0] 25)
  have C0 := blk_alloc (blk_top (w := w) (.cells #[.bool t.f0, .string t.f1, .slice A t.f2.length c] 25) (.cells #[.bool false, .string ⟨#[]⟩, .slice none 0 0] 25)) (.cells #[.bool false, .string ⟨#[]⟩, .slice none 0 0] 25)
  have D0 := blk_third (w := w) (.cells #[.bool t.f0, .string t.f1, .slice A t.f2.length c] 25) (.cells #[.bool false, .string ⟨#[]⟩, .slice none 0 0] 25) (.cells #[.bool false, .string ⟨#[]⟩, .slice none 0 0] 25)
  obtain ⟨a0, a1, a2, a3, a4, a5, a6⟩ := box3s B0
  obtain ⟨b0, b1, b2, b3, b4, b5, b6⟩ := box3s C0
  obtain ⟨d0, d1, d2, d3, d4, d5, d6⟩ := box3s D0
  unfold destF
  by_cases hok : t.f0 = false ∧ t.f1 = funN ∧ t.f2.length = 2
  case neg =>
    rw [if_neg hok]
    obtain ⟨tv, tn, tl⟩ := t
    dsimp only at *
    clear hA hsz
    cases tv with
    | true =>
      clear hok
      go_enter Try.func25, Try.ntmps25
      go_wp2
      go_region
      all_goals go_wp2
      all_goals (refine bodyPost_ret (v := .tuple #[.agg #[.bool false, .string ⟨#[]⟩, .slice none 0 0], .agg #[.bool false, .string ⟨#[]⟩, .slice none 0 0], .bool false]) (by simp [results, Try.results25, go_sem, b0, b1, b2, d0, d1, d2]) rfl ?_; exact ⟨_, _, rfl, .nil _ _, .nil _ _, below_drew1 hb0⟩)
    | false =>
      by_cases hn : tn = funN
      · have hl : ¬ tl.length = 2 := fun h => hok ⟨rfl, hn, h⟩
        obtain rfl : tn = ⟨#[102, 117, 110]⟩ := hn
        have e1 : ((tl.length : Int) != 2) = true := bne_iff_ne.mpr (by omega)
        have e2 : ((tl.length : Int) == 2) = false := beq_eq_false_iff_ne.mpr (by omega)
        have e3 : (tl.length == 2) = false := beq_eq_false_iff_ne.mpr hl
        have e4 : decide (tl.length = 2) = false := decide_eq_false hl
        clear hok hl
        go_enter Try.func25, Try.ntmps25
        go_wp2
        go_region
        all_goals go_wp2
        all_goals (refine bodyPost_ret (v := .tuple #[.agg #[.bool false, .string ⟨#[]⟩, .slice none 0 0], .agg #[.bool false, .string ⟨#[]⟩, .slice none 0 0], .bool false]) (by simp [results, Try.results25, go_sem, b0, b1, b2, d0, d1, d2]) rfl ?_; exact ⟨_, _, rfl, .nil _ _, .nil _ _, below_drew1 hb0⟩)
      · have e1 : (tn.toList == [102, 117, 110]) = false := beq_eq_false_iff_ne.mpr (fun h => hn (by
          rw [Go.ByteArray.toList_eq] at h
          cases tn
          simp only at h
          unfold funN
          congr 1
          rw [← Array.toList_inj]
          exact h))
        have e2 : (tn.toList != [102, 117, 110]) = true := by rw [bne, e1]; rfl
        have e3 : decide (tn.toList = [102, 117, 110]) = false := decide_eq_false (beq_eq_false_iff_ne.1 e1)
        clear hok
        go_enter Try.func25, Try.ntmps25
        go_wp2
        go_region
        all_goals go_wp2
        all_goals (refine bodyPost_ret (v := .tuple #[.agg #[.bool false, .string ⟨#[]⟩, .slice none 0 0], .agg #[.bool false, .string ⟨#[]⟩, .slice none 0 0], .bool false]) (by simp [results, Try.results25, go_sem, b0, b1, b2, d0, d1, d2]) rfl ?_; exact ⟨_, _, rfl, .nil _ _, .nil _ _, below_drew1 hb0⟩)
  case pos =>
    rw [if_pos hok]
    obtain ⟨tv, tn, tl⟩ := t
    dsimp only at *
    obtain ⟨rfl, hn, hl⟩ := hok
    obtain rfl : tn = ⟨#[102, 117, 110]⟩ := hn
    obtain ⟨x, y, rfl⟩ : ∃ x y, tl = [x, y] := by
      match tl, hl with
      | [x, y], _ => exact ⟨x, y, rfl⟩
    obtain ⟨ad, A0, c0, rfl, e0, e1, e2, l0, g0⟩ := at_T25 hA 0 (by omega) (by simp)
    obtain ⟨ad', A1, c1, he, f0, f1, f2, l1, g1⟩ := at_T25 hA 1 (by omega) (by simp)
    injection he with he
    subst he
    clear hl
    have hl2 : ([x, y] : List S25).length = 2 := rfl
    simp only [hl2] at hc hb0 B0 C0 D0 a0 a1 a2 a3 a4 a5 a6 b0 b1 b2 b3 b4 b5 b6 d0 d1 d2 d3 d4 d5 d6 ⊢
    have r0 : rd_T25 [x, y] 0 = x := rfl
    have r1 : rd_T25 [x, y] 1 = y := rfl
    rw [r0] at e0 e1 e2 l0 g0
    rw [r1] at f0 f1 f2 l1 g1
    have hx : szT x ≤ 5864062014805 := by simp only [szT, szL] at hsz; omega
    have hy : szT y ≤ 5864062014805 := by simp only [szT, szL] at hsz; omega
    obtain ⟨W0, hW0⟩ : ∃ W0, ((w.alloc (.cells #[.bool false, .string ⟨#[102, 117, 110]⟩, .slice (some ad) 2 c] 25)).alloc (.cells #[.bool false, .string ⟨#[]⟩, .slice none 0 0] 25)).alloc (.cells #[.bool false, .string ⟨#[]⟩, .slice none 0 0] 25) = W0 := ⟨_, rfl⟩
    have hB : DesS w ad c x y A0 c0 A1 c1 W0 := by
      rw [← hW0]
      exact ⟨a0, a1, a2, pw_cell_below hb0 e0, pw_cell_below hb0 e1, pw_cell_below hb0 e2, pw_cell_below hb0 f0, pw_cell_below hb0 f1, pw_cell_below hb0 f2, hb0⟩
    have hstep : ∀ W W', DesS w ad c x y A0 c0 A1 c1 W → Below W.heap.size W W' → DesS w ad c x y A0 c0 A1 c1 W' := fun W W' h hb =>
      ⟨pw_cell_below hb h.1, pw_cell_below hb h.2.1, pw_cell_below hb h.2.2.1, pw_cell_below hb h.2.2.2.1, pw_cell_below hb h.2.2.2.2.1, pw_cell_below hb h.2.2.2.2.2.1, pw_cell_below hb h.2.2.2.2.2.2.1, pw_cell_below hb h.2.2.2.2.2.2.2.1, pw_cell_below hb h.2.2.2.2.2.2.2.2.1, below_step h.2.2.2.2.2.2.2.2.2 hb⟩
    have hta := fun W (hw : DesS w ad c x y A0 c0 A1 c1 W) => (twin_calls (szT x) x A0 c0 W (Nat.le_refl _) hx (Kd.C_below g0 hw.2.2.2.2.2.2.2.2.2) l0).mono (fun _ W' h => show ∃ v, _ ∧ WT W' (fun k => W.heap.size ≤ k) v _ ∧ Below W.heap.size W W' ∧ DesS w ad c x y A0 c0 A1 c1 W' from by obtain ⟨v, h1, h2, h3⟩ := h; exact ⟨v, h1, h2, h3, hstep _ _ hw h3⟩)
    have htb := fun W (hw : DesS w ad c x y A0 c0 A1 c1 W) => (twin_calls (szT y) y A1 c1 W (Nat.le_refl _) hy (Kd.C_below g1 hw.2.2.2.2.2.2.2.2.2) l1).mono (fun _ W' h => show ∃ v, _ ∧ WT W' (fun k => W.heap.size ≤ k) v _ ∧ Below W.heap.size W W' ∧ DesS w ad c x y A0 c0 A1 c1 W' from by obtain ⟨v, h1, h2, h3⟩ := h; exact ⟨v, h1, h2, h3, hstep _ _ hw h3⟩)
    have hsz : W0.heap.size = w.heap.size + 3 := by rw [← hW0]; simp
    have hadb : ad.block < w.heap.size := World.block_lt_of_cell? w ⟨ad.block, ad.off + 3, none⟩ f0
    clear hA e0 e1 e2 f0 f1 f2 g0 g1
    go_enter Try.func25, Try.ntmps25
    go_wp2_with fail
    rw [hW0] at hb0 B0 C0 D0 a0 a1 a2 a3 a4 a5 b0 b1 b2 b3 b4 b5 d0 d1 d2 d3 d4 d5
    try rw [hW0]
    clear hW0
    have hS0 : DesS w ad c x y A0 c0 A1 c1 W0.drew := hstep _ _ hB (below_drew1 (Below.refl _ _))
    have hput1 : ∀ W, DesS w ad c x y A0 c0 A1 c1 W → ∀ p q r, DesS w ad c x y A0 c0 A1 c1 (((W.setCell ⟨w.heap.size + 1, 0, none⟩ p).setCell ⟨w.heap.size + 1, 1, none⟩ q).setCell ⟨w.heap.size + 1, 2, none⟩ r) := fun W h p q r => by
      have n0 : w.heap.size ≠ w.heap.size + 1 := by omega
      have n1 : ad.block ≠ w.heap.size + 1 := by omega
      obtain ⟨h0, h1, h2, h3, h4, h5, h6, h7, h8, h9⟩ := h
      exact ⟨cell_away (cell_away (cell_away h0 n0) n0) n0, cell_away (cell_away (cell_away h1 n0) n0) n0, cell_away (cell_away (cell_away h2 n0) n0) n0, cell_away (cell_away (cell_away h3 n1) n1) n1, cell_away (cell_away (cell_away h4 n1) n1) n1, cell_away (cell_away (cell_away h5 n1) n1) n1, cell_away (cell_away (cell_away h6 n1) n1) n1, cell_away (cell_away (cell_away h7 n1) n1) n1, cell_away (cell_away (cell_away h8 n1) n1) n1, ((h9.setCell (by first | (simp; done) | (simp; omega)) _).setCell (by first | (simp; done) | (simp; omega)) _).setCell (by first | (simp; done) | (simp; omega)) _⟩
    have hput2 : ∀ W, DesS w ad c x y A0 c0 A1 c1 W → ∀ p q r, DesS w ad c x y A0 c0 A1 c1 (((W.setCell ⟨w.heap.size + 1 + 1, 0, none⟩ p).setCell ⟨w.heap.size + 1 + 1, 1, none⟩ q).setCell ⟨w.heap.size + 1 + 1, 2, none⟩ r) := fun W h p q r => by
      have n0 : w.heap.size ≠ w.heap.size + 1 + 1 := by omega
      have n1 : ad.block ≠ w.heap.size + 1 + 1 := by omega
      obtain ⟨h0, h1, h2, h3, h4, h5, h6, h7, h8, h9⟩ := h
      exact ⟨cell_away (cell_away (cell_away h0 n0) n0) n0, cell_away (cell_away (cell_away h1 n0) n0) n0, cell_away (cell_away (cell_away h2 n0) n0) n0, cell_away (cell_away (cell_away h3 n1) n1) n1, cell_away (cell_away (cell_away h4 n1) n1) n1, cell_away (cell_away (cell_away h5 n1) n1) n1, cell_away (cell_away (cell_away h6 n1) n1) n1, cell_away (cell_away (cell_away h7 n1) n1) n1, cell_away (cell_away (cell_away h8 n1) n1) n1, ((h9.setCell (by first | (simp; done) | (simp; omega)) _).setCell (by first | (simp; done) | (simp; omega)) _).setCell (by first | (simp; done) | (simp; omega)) _⟩
    go_region_held3 (fun W => DesS w ad c x y A0 c0 A1 c1 W)
      (first | (with_reducible exact hS0) | (with_reducible assumption) | (with_reducible exact hput1 _ (by with_reducible assumption) _ _ _) | (with_reducible exact hput2 _ (by with_reducible assumption) _ _ _) | (with_reducible exact hput2 _ (hput1 _ (by with_reducible assumption) _ _ _) _ _ _) | (with_reducible exact hput1 _ (hput2 _ (by with_reducible assumption) _ _ _) _ _ _))
      (first
        | (go_at_call 27; (with_reducible refine (htb _ (by with_reducible assumption)).mono ?_); rintro e w2 ⟨v2, rfl, hT2, hc2, hN⟩; have D2 := blk_below D1 hc2; have C2 := blk_below C1 hc2; obtain ⟨y0, y1, y2, y3, y4, y5, y6⟩ := box3s C2; obtain ⟨A2, c2, hv2, _⟩ := hT2.reads; subst hv2; have hT1' := hT1.later hc2; obtain ⟨x0, x1, x2, x3, x4, x5, x6⟩ := box3s D2)
        | (go_at_call 27; (with_reducible refine (hta _ (by with_reducible assumption)).mono ?_); rintro e w1 ⟨v1, rfl, hT1, hc1, hN⟩; have hbN := below_step (below_drew1 (Below.refl _ W0)) hc1; have D1 := blk_below D0 hbN; have C1 := blk_below C0 hbN; obtain ⟨A1, c1, hv1, _⟩ := hT1.reads; subst hv1))
    have hb2 := hN.2.2.2.2.2.2.2.2.2
    have z1 := hc1.size
    have z2 := hc2.size
    simp only [World.size_drew] at z1
    go_wp2
    obtain ⟨w3, hw3⟩ : ∃ w3, ((w2.setCell ⟨w.heap.size + 1, 0, none⟩ (.bool x.f0)).setCell ⟨w.heap.size + 1, 1, none⟩ (.string x.f1)).setCell ⟨w.heap.size + 1, 2, none⟩ (.slice A1 x.f2.length c1) = w3 := ⟨_, rfl⟩
    have hk3 : ∀ k, k ≠ w.heap.size + 1 → w3.heap[k]? = w2.heap[k]? := fun k hk => by
      rw [← hw3, Below.heap_setCell _ _ _ k hk, Below.heap_setCell _ _ _ k hk, Below.heap_setCell _ _ _ k hk]
    have hs3 : w3.heap.size = w2.heap.size := by rw [← hw3]; simp
    have C3 : w3.heap[w.heap.size + 1]? = some (.cells #[.bool x.f0, .string x.f1, .slice A1 x.f2.length c1] 25 (0, 0)) := by rw [← hw3]; exact set3 C2
    have D3 : w3.heap[w.heap.size + 1 + 1]? = some (.cells #[.bool false, .string ⟨#[]⟩, .slice none 0 0] 25 (0, 0)) := (hk3 _ (by omega)).trans D2
    have hb3 : Below w.heap.size w w3 := by rw [← hw3]; exact ((hb2.setCell (by simp) _).setCell (by simp) _).setCell (by simp) _
    rw [hw3]
    clear hw3
    obtain ⟨w4, hw4⟩ : ∃ w4, ((w3.setCell ⟨w.heap.size + 1 + 1, 0, none⟩ (.bool y.f0)).setCell ⟨w.heap.size + 1 + 1, 1, none⟩ (.string y.f1)).setCell ⟨w.heap.size + 1 + 1, 2, none⟩ (.slice A2 y.f2.length c2) = w4 := ⟨_, rfl⟩
    have hk4 : ∀ k, k ≠ w.heap.size + 1 + 1 → w4.heap[k]? = w3.heap[k]? := fun k hk => by
      rw [← hw4, Below.heap_setCell _ _ _ k hk, Below.heap_setCell _ _ _ k hk, Below.heap_setCell _ _ _ k hk]
    have D4 : w4.heap[w.heap.size + 1 + 1]? = some (.cells #[.bool y.f0, .string y.f1, .slice A2 y.f2.length c2] 25 (0, 0)) := by rw [← hw4]; exact set3 D3
    have C4 : w4.heap[w.heap.size + 1]? = some (.cells #[.bool x.f0, .string x.f1, .slice A1 x.f2.length c1] 25 (0, 0)) := (hk4 _ (by omega)).trans C3
    have hb4 : Below w.heap.size w w4 := by rw [← hw4]; exact ((hb3.setCell (by simp; omega) _).setCell (by simp; omega) _).setCell (by simp; omega) _
    rw [hw4]
    clear hw4
    obtain ⟨p0, p1, p2, _⟩ := box3s C4
    obtain ⟨q0, q1, q2, _⟩ := box3s D4
    refine bodyPost_ret (v := .tuple #[.agg #[.bool x.f0, .string x.f1, .slice A1 x.f2.length c1], .agg #[.bool y.f0, .string y.f1, .slice A2 y.f2.length c2], .bool true]) (by simp [results, Try.results25, go_sem, p0, p1, p2, q0, q1, q2]) rfl ?_
    have hmv : ∀ {v : Value} {l : List S25}, WT w2 (fun k => w.heap.size + 3 ≤ k) v l → WT w4 (fun k => w.heap.size ≤ k) v l := fun h => (h.step (fun k hk _ => (hk4 k (by omega)).trans (hk3 k (by omega)))).mono (fun k hk => by omega)
    exact ⟨_, _, rfl, hmv (hT1'.mono (fun k hk => by simp at hk; omega)), hmv (hT2.mono (fun k hk => by omega)), hb4⟩
end Go.Proofs.Ytgnklkmifcmlhaa.Q
/- Proved here: comparing types is a total order (plain laws, no program in sight). Conditions: those that each theorem names. -/
namespace Go.Proofs.Ytgnklkmifcmlhaa.Q
open Go.RowKit Go.Proofs.YtgnklkmifcmlhaaW.PrintWords Go.Proofs.YtgnklkmifcmlhaaW.PrintMore
set_option linter.unusedVariables false
set_option linter.unusedSimpArgs false

end Go.Proofs.Ytgnklkmifcmlhaa.Q
